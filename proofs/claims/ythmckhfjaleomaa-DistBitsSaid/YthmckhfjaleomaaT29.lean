-- Printed by this session's own driver (wip/tools/xprint.py) over the kit's printer; given functions are this session's own.
import Derived.Test.YthmckhfjaleomaaT0
import Derived.Test.YthmckhfjaleomaaT2
import Derived.Test.YthmckhfjaleomaaLen64
namespace Go.Proofs.Ythmckhfjaleomaa.T
open Go.RowKit Go.Proofs.YthmckhfjaleomaaW.PrintWords Go.Proofs.YthmckhfjaleomaaW.PrintLast Go.Proofs.YthmckhfjaleomaaW.PrintMore
attribute [local go_sem] max2_int min2_int max_two min_two max_three min_three max_four min_four   -- for this text's walks alone
set_option linter.unusedVariables false
set_option linter.unusedSimpArgs false

-- NOT PRINTED: function 10 (w22_DistLeasts)

/-! ### dist_sums: function 64 -/
mutual
def dist_sums.l0 : Nat → Int → List Int → Int → Int → Option (Int × Bool)
  | 0, _, _, _, _ => none
  | k + 1, x4, x13, x14, x15 => if x15 < x14 then (if 0 ≤ x15 then (if x15 < (x13.length : Int) then (if (rd x13 x15) < 0 then (some (0, false)) else (if (rd x13 x15) > 4294967296 then (some (0, false)) else (dist_sums.l0 k (wrap64 (x4 + (rd x13 x15))) x13 x14 (wrap64 (x15 + 1))))) else (none)) else (none)) else ((some (([1, 2, 4, 8, 16, 32] : List Int) : List Int)).bind fun y704 => (dist_sums.l1 k x4 y704 (y704.length : Int) 0))
def dist_sums.l1 : Nat → Int → List Int → Int → Int → Option (Int × Bool)
  | 0, _, _, _, _ => none
  | k + 1, x4, x29, x30, x31 => if x31 < x30 then (if 0 ≤ x31 then (if x31 < (x29.length : Int) then (if 0 ≤ (rd x29 x31) then (if x4 = (shl .i64 1 (rd x29 x31)) then (some (rd x29 x31, true)) else (dist_sums.l1 k x4 x29 x30 (wrap64 (x31 + 1)))) else (none)) else (none)) else (none)) else (some (0, false))
end
def dist_sums.f (k : Nat) (l0 : List Int) : Option (Int × Bool) := (dist_between.f (l0.length : Int) 1 512).bind fun t702 => (if t702 = true then (dist_sums.l0 k 0 l0 (l0.length : Int) 0) else (some (0, false)))
theorem dist_sums.mono_l : ∀ k, (∀ y0 y1 y2 y3, LeO (dist_sums.l0 k y0 y1 y2 y3) (dist_sums.l0 (k + 1) y0 y1 y2 y3)) ∧ (∀ y0 y1 y2 y3, LeO (dist_sums.l1 k y0 y1 y2 y3) (dist_sums.l1 (k + 1) y0 y1 y2 y3))
  | 0 => ⟨fun _ _ _ _ r h => by simp [dist_sums.l0] at h, fun _ _ _ _ r h => by simp [dist_sums.l1] at h⟩
  | k + 1 => by
    obtain ⟨ih0, ih1⟩ := dist_sums.mono_l k
    refine ⟨?_, ?_⟩ <;> (intros; first | unfold dist_sums.l0 | unfold dist_sums.l1)
    all_goals repeat' first
      | (with_reducible exact ih0 _ _ _ _)
      | (with_reducible exact ih1 _ _ _ _)
      | (with_reducible exact yR _)
      | (with_reducible exact yO _)
      | (with_reducible refine yQ ?_ ?_)
      | (with_reducible refine yP ?_ (fun _ => ?_))
      | exact ih0 _ _ _ _
      | exact ih1 _ _ _ _
      | exact yO _
      | refine yQ ?_ ?_
      | refine yP ?_ (fun _ => ?_)
theorem dist_sums.mono : ∀ a0 k, LeO (dist_sums.f k a0) (dist_sums.f (k + 1) a0) := by
  intro a0 k
  obtain ⟨ih0, ih1⟩ := dist_sums.mono_l k
  unfold dist_sums.f
  repeat' first
      | (with_reducible exact ih0 _ _ _ _)
      | (with_reducible exact ih1 _ _ _ _)
      | (with_reducible exact yR _)
      | (with_reducible exact yO _)
      | (with_reducible refine yQ ?_ ?_)
      | (with_reducible refine yP ?_ (fun _ => ?_))
      | exact ih0 _ _ _ _
      | exact ih1 _ _ _ _
      | exact yO _
      | refine yQ ?_ ?_
      | refine yP ?_ (fun _ => ?_)
set_option maxHeartbeats 8000000 in
set_option maxRecDepth 100000 in
theorem dist_sums.calls (k : Nat) (A0 : Option Addr) (c0 : Nat) (l0 : List Int) (r1 : Int) (r2 : Bool) (w : World) (hr0 : Kd.C (Kd.int .i64) w A0 l0.length l0) (hc0 : l0.length ≤ c0) (h : dist_sums.f k l0 = some (r1, r2)) :
    Calls Try.prog 64 #[.slice A0 l0.length c0] w fun e w' => e = .returned (.tuple #[.int .i64 r1, .bool r2]) ∧ Below w.heap.size w w' := by
  have HR0 := zK hr0
  have HC0 := zK hc0
  clear hr0 hc0
  have HB := zK (Below.refl w.heap.size w)
  have H : ((dist_between.f (l0.length : Int) 1 512).bind fun t702 => (if t702 = true then (dist_sums.l0 k 0 l0 (l0.length : Int) 0) else (some (0, false)))) = some (r1, r2) := h
  clear h
  replace H := yA.mp H
  obtain ⟨t702, A20, H⟩ := H
  replace H : (if t702 = true then (dist_sums.l0 k 0 l0 (l0.length : Int) 0) else (some (0, false))) = some (r1, r2) := H
  have A2 := zK A20
  clear A20
  by_cases c3 : t702 = true
  ·subst c3
   have H1 : (dist_sums.l0 k 0 l0 (l0.length : Int) 0) = some (r1, r2) := by rw [if_pos rfl] at H; exact H
   clear H
   have H := H1
   clear H1
   have H' := zK H
   clear H
   go_enter Try.func64, Try.ntmps64
   go_wp2_with (first | ((with_reducible refine gate_callee (f := 33) rfl ?_); refine goesL_ (some 11) rfl rfl Try.func33 (by kernel_rfl) rfl #[.int .i64 (l0.length : Int), .int .i64 1, .int .i64 512] rfl (by (try simp only [yH, yI, yJ]); first | done | rfl | (simp only [yG, yF]; rfl)) ?_; (with_reducible refine (dist_between.calls (l0.length : Int) 1 512 true _ A2.out).mono ?_); rintro e w' ⟨rfl, ⟨nd, rfl⟩⟩; refine ⟨_, rfl, ?_⟩))
   go_loopg [4, 15] k (fun kq v4 v15 w' => ∃ (x4_1 : Int) (x15_1 : Int), v4 = .int .i64 x4_1 ∧ v15 = .int .i64 x15_1 ∧ Aside0 (dist_sums.l0 kq x4_1 l0 (l0.length : Int) x15_1 = some (r1, r2)) ∧ Aside0 (kq ≤ k) ∧ Aside0 (Below w.heap.size w w'))
   case atStart => exact ⟨(0), (0), (by first | rfl | (simp; done) | (simp [*]; done)), (by first | rfl | (simp; done) | (simp [*]; done)), H', ⟨yN _⟩, ⟨by repeat (first | (with_reducible first | exact HB.out | apply zJ | apply zD | apply zE) | exact HB.out)⟩⟩
   case round =>
    clear H'
    try clear p2
    try clear c3
    obtain ⟨x4_1, x15_1, rfl, rfl, HA, HK1, HB⟩ := hrel
    cases gk with
    | zero => exact absurd HA.out (by simp [dist_sums.l0])
    | succ k1 =>
     have H := HA.out
     clear HA
     simp only [dist_sums.l0] at H
     by_cases c4 : x15_1 < (l0.length : Int)
     ·rw [if_pos c4] at H
      have c4b0 : decide (x15_1 < (l0.length : Int)) = true := yC c4
      clear c4
      by_cases c5 : 0 ≤ x15_1
      ·rw [if_pos c5] at H
       have c5b0 : decide (0 ≤ x15_1) = true := yC c5
       clear c5
       by_cases c6 : x15_1 < (l0.length : Int)
       ·rw [if_pos c6] at H
        have c6b0 : decide (x15_1 < (l0.length : Int)) = true := yC c6
        clear c6
        by_cases c7 : (rd l0 x15_1) < 0
        ·rw [if_pos c7] at H
         have c7b0 : decide ((rd l0 x15_1) < 0) = true := yC c7
         clear c7
         simp only [yZ, ya] at H
         obtain ⟨rfl, rfl⟩ := H
         have p703 : 0 ≤ (x15_1 : Int) := yB (by first | (with_reducible assumption) | assumption)
         have q703 : x15_1 < (l0.length : Int) := yB (by first | (with_reducible assumption) | assumption)
         obtain ⟨ad703, e703, hx703_0⟩ := Kd.at_int HR0.out x15_1 p703 q703
         cases e703
         replace hx703_0 := (HB.out.cell (World.block_lt_of_cell? w _ hx703_0)).trans hx703_0
         replace p703 := yg p703
         replace q703 := yg q703
         go_wp2
         go_ret2
         exact ⟨by first | rfl | (simp [errW_none, errW_some] <;> rfl) | (simp [*, errW_none, errW_some] <;> rfl), by repeat (first | (with_reducible first | exact HB.out | apply zJ | apply zD | apply zE) | exact HB.out)⟩
        ·rw [if_neg c7] at H
         have c7b0 : decide ((rd l0 x15_1) < 0) = false := yD c7
         clear c7
         by_cases c8 : (rd l0 x15_1) > 4294967296
         ·rw [if_pos c8] at H
          have c8b0 : decide (4294967296 < (rd l0 x15_1)) = true := yC c8
          clear c8
          simp only [yZ, ya] at H
          obtain ⟨rfl, rfl⟩ := H
          have p703 : 0 ≤ (x15_1 : Int) := yB (by first | (with_reducible assumption) | assumption)
          have q703 : x15_1 < (l0.length : Int) := yB (by first | (with_reducible assumption) | assumption)
          obtain ⟨ad703, e703, hx703_0⟩ := Kd.at_int HR0.out x15_1 p703 q703
          cases e703
          replace hx703_0 := (HB.out.cell (World.block_lt_of_cell? w _ hx703_0)).trans hx703_0
          replace p703 := yg p703
          replace q703 := yg q703
          go_wp2
          go_ret2
          exact ⟨by first | rfl | (simp [errW_none, errW_some] <;> rfl) | (simp [*, errW_none, errW_some] <;> rfl), by repeat (first | (with_reducible first | exact HB.out | apply zJ | apply zD | apply zE) | exact HB.out)⟩
         ·rw [if_neg c8] at H
          have c8b0 : decide (4294967296 < (rd l0 x15_1)) = false := yD c8
          clear c8
          have H' := zK H
          clear H
          have p703 : 0 ≤ (x15_1 : Int) := yB (by first | (with_reducible assumption) | assumption)
          have q703 : x15_1 < (l0.length : Int) := yB (by first | (with_reducible assumption) | assumption)
          obtain ⟨ad703, e703, hx703_0⟩ := Kd.at_int HR0.out x15_1 p703 q703
          cases e703
          replace hx703_0 := (HB.out.cell (World.block_lt_of_cell? w _ hx703_0)).trans hx703_0
          replace p703 := yg p703
          replace q703 := yg q703
          go_wp2
          go_roundg k1
          case measure => have := HK1.out; omega
          case rel => exact ⟨(wrap64 (x4_1 + (rd l0 x15_1))), (wrap64 (x15_1 + 1)), (by first | rfl | (simp; done) | (simp [*]; done)), (by first | rfl | (simp; done) | (simp [*]; done)), H', ⟨by have := HK1.out; omega⟩, ⟨by repeat (first | (with_reducible first | exact HB.out | apply zJ | apply zD | apply zE) | exact HB.out)⟩⟩
       ·rw [if_neg c6] at H
        exact absurd H (by simp)
      ·rw [if_neg c5] at H
       exact absurd H (by simp)
     ·rw [if_neg c4] at H
      have c4b0 : decide (x15_1 < (l0.length : Int)) = false := yD c4
      clear c4
      obtain ⟨y704, hy704⟩ : ∃ y_ : List Int, y_ = (([1, 2, 4, 8, 16, 32] : List Int)) := ⟨_, rfl⟩
      replace H : (dist_sums.l1 k1 x4_1 y704 (y704.length : Int) 0) = some (r1, r2) := by first | (rw [hy704]; with_reducible exact H) | (have H2_ := (yV _ _).symm.trans H; rw [hy704]; with_reducible exact H2_) | (have H2_ := (yV _ _).symm.trans H; with_reducible exact H2_) | with_reducible exact H | (rw [hy704]; exact H) | exact H
      have Ny704 := zK hy704
      clear hy704
      have H' := zK H
      clear H
      go_wp2_with (first | ((with_reducible refine gate_dst (N := 29) rfl ?_); refine Kd.R_lit (Kd.int .i64) _ 2 ?hg (N := 29) ?hd (xs := ([1, 2, 4, 8, 16, 32] : List Int)) (inner := [.int .i64 1, .int .i64 2, .int .i64 4, .int .i64 8, .int .i64 16, .int .i64 32]) (ok := fun _ => True) (okp := fun _ => True) ?hr ?hp (fun _ hk => hk) trivial (Below.refl _ _) (yN _) (by simp) ?_; (case hd => rfl); (case hg => rfl); (case hr => first | (go_simp; done) | (go_simp; rfl)); (case hp => exact (Reps.one (show Kd.M (Kd.int .i64) _ _ _ 1 [.int .i64 1] from rfl) (Reps.one (show Kd.M (Kd.int .i64) _ _ _ 2 [.int .i64 2] from rfl) (Reps.one (show Kd.M (Kd.int .i64) _ _ _ 4 [.int .i64 4] from rfl) (Reps.one (show Kd.M (Kd.int .i64) _ _ _ 8 [.int .i64 8] from rfl) (Reps.one (show Kd.M (Kd.int .i64) _ _ _ 16 [.int .i64 16] from rfl) (Reps.one (show Kd.M (Kd.int .i64) _ _ _ 32 [.int .i64 32] from rfl) (Reps.none _ _)))))))); intro v705 w9 ho10 hb hg_ hnew_; clear hg_ hnew_; (first | rw [← Ny704.out] at ho10 | (simp only [Int.reduceToNat] at ho10; rw [← Ny704.out] at ho10)); have n0_ := zK (Kd.R_lower ho10 (yK (by repeat (first | (with_reducible first | exact HB.out | apply zJ | apply zD | apply zE) | exact HB.out)))); have n1_ := zK (yL (by repeat (first | (with_reducible first | exact HB.out | apply zJ | apply zD | apply zE) | exact HB.out)) hb); clear HB; have HO706 := n0_; have HB := n1_; clear n0_ n1_ hb ho10; obtain ⟨Ao11, co11, eo11⟩ := Kd.R_slice HO706.out; subst eo11))
      go_loopg [31] k1 (fun kq v31 w' => ∃ (x31_2 : Int), v31 = .int .i64 x31_2 ∧ Aside0 (dist_sums.l1 kq x4_1 y704 (y704.length : Int) x31_2 = some (r1, r2)) ∧ Aside0 (kq ≤ k1) ∧ Aside0 (Kd.R (Kd.int .i64) 2 w' w.heap.size (fun _ => True) (.slice Ao11 y704.length co11) y704) ∧ Aside0 (Below w.heap.size w w'))
      case atStart => exact ⟨(0), (by first | rfl | (simp; done) | (simp [*]; done)), H', ⟨yN _⟩, ⟨by (with_reducible repeat (first | apply zL | apply zM | apply zN)); exact HO706.out⟩, ⟨by repeat (first | (with_reducible first | exact HB.out | apply zJ | apply zD | apply zE) | exact HB.out)⟩⟩
      case round =>
       clear H'
       try clear p2
       try clear c3
       try clear c4
       try clear c4b0
       try clear c5
       try clear c5b0
       try clear c6
       try clear c6b0
       try clear p6
       try clear c7
       try clear c7b0
       try clear p7
       try clear q7
       try clear hx7
       try clear c8
       try clear c8b0
       try clear hx703_0
       try clear p2
       try clear p703
       try clear q703
       obtain ⟨x31_2, rfl, HA, HK2, HO_29, HB⟩ := hrel
       cases gk with
       | zero => exact absurd HA.out (by simp [dist_sums.l1])
       | succ k2 =>
        have H := HA.out
        clear HA
        simp only [dist_sums.l1] at H
        by_cases c12 : x31_2 < (y704.length : Int)
        ·rw [if_pos c12] at H
         have c12b0 : decide (x31_2 < (y704.length : Int)) = true := yC c12
         clear c12
         by_cases c13 : 0 ≤ x31_2
         ·rw [if_pos c13] at H
          have c13b0 : decide (0 ≤ x31_2) = true := yC c13
          clear c13
          by_cases c14 : x31_2 < (y704.length : Int)
          ·rw [if_pos c14] at H
           have c14b0 : decide (x31_2 < (y704.length : Int)) = true := yC c14
           clear c14
           by_cases c15 : 0 ≤ (rd y704 x31_2)
           ·rw [if_pos c15] at H
            have c15b0 := yg c15
            have c15b1 : decide (0 ≤ (rd y704 x31_2)) = true := yC c15
            clear c15
            obtain ⟨ji16, hji16⟩ : ∃ j_ : Int, (shl .i64 1 (rd y704 x31_2)) = j_ := ⟨_, rfl⟩
            replace H : (if x4_1 = (ji16) then (some (rd y704 x31_2, true)) else (dist_sums.l1 k2 x4_1 y704 (y704.length : Int) (wrap64 (x31_2 + 1)))) = some (r1, r2) := by first | (rw [hji16] at H; exact H) | (simp only [hji16] at H ⊢; exact H)
            have hji16_ : (IntKind.i64.wrap (1 * 2 ^ min (rd y704 x31_2).toNat 64)) = ji16 := hji16
            have hji16z : (rd y704 x31_2) ≤ 64 → (IntKind.i64.wrap (1 * 2 ^ (rd y704 x31_2).toNat)) = ji16 := shl_small hji16
            have hji16u : (IntKind.i64.wrap (2 ^ min (rd y704 x31_2).toNat 64)) = ji16 := by have h_ := hji16_; rw [Int.one_mul] at h_; exact h_
            have hji16v : (rd y704 x31_2) ≤ 64 → (IntKind.i64.wrap (2 ^ (rd y704 x31_2).toNat)) = ji16 := fun hle_ => by have h_ := hji16z hle_; rw [Int.one_mul] at h_; exact h_
            have hji16y : (wrap64 (1 * 2 ^ min (rd y704 x31_2).toNat 64)) = ji16 := (i64_w _).symm.trans hji16_
            have hji16x : (rd y704 x31_2) ≤ 64 → (wrap64 (1 * 2 ^ (rd y704 x31_2).toNat)) = ji16 := fun h_ => (i64_w _).symm.trans (hji16z h_)
            by_cases c17 : x4_1 = (ji16)
            ·rw [if_pos c17] at H
             have c17b0 : (x4_1 == (ji16)) = true := beq_iff_eq.mpr c17
             have c17b1 : (x4_1 != (ji16)) = false := bne_eq_false_iff_eq.mpr c17
             clear c17
             simp only [yZ, ya] at H
             obtain ⟨rfl, rfl⟩ := H
             have p707 : 0 ≤ (x31_2 : Int) := yB (by first | (with_reducible assumption) | assumption)
             have q707 : x31_2 < (y704.length : Int) := yB (by first | (with_reducible assumption) | assumption)
             obtain ⟨ad707, e707, hx707_0⟩ := Kd.at_int (yM HO_29.out).2.2 x31_2 p707 q707
             cases e707
             replace p707 := yg p707
             replace q707 := yg q707
             go_wp2
             go_ret2
             exact ⟨by first | rfl | (simp [errW_none, errW_some] <;> rfl) | (simp only [← hji16]; first | rfl | (simp [errW_none, errW_some] <;> rfl)) | (simp [*, errW_none, errW_some] <;> rfl), by repeat (first | (with_reducible first | exact HB.out | apply zJ | apply zD | apply zE) | exact HB.out)⟩
            ·rw [if_neg c17] at H
             have c17b0 : (x4_1 == (ji16)) = false := beq_eq_false_iff_ne.mpr c17
             have c17b1 : (x4_1 != (ji16)) = true := bne_iff_ne.mpr c17
             have H' := zK H
             clear H
             have p707 : 0 ≤ (x31_2 : Int) := yB (by first | (with_reducible assumption) | assumption)
             have q707 : x31_2 < (y704.length : Int) := yB (by first | (with_reducible assumption) | assumption)
             obtain ⟨ad707, e707, hx707_0⟩ := Kd.at_int (yM HO_29.out).2.2 x31_2 p707 q707
             cases e707
             replace p707 := yg p707
             replace q707 := yg q707
             go_wp2
             go_roundg k2
             case measure => have := HK1.out; have := HK2.out; omega
             case rel => exact ⟨(wrap64 (x31_2 + 1)), (by first | rfl | (simp; done) | (simp [*]; done)), H', ⟨by have := HK1.out; have := HK2.out; omega⟩, ⟨by (with_reducible repeat (first | apply zL | apply zM | apply zN)); exact HO_29.out⟩, ⟨by repeat (first | (with_reducible first | exact HB.out | apply zJ | apply zD | apply zE) | exact HB.out)⟩⟩
           ·rw [if_neg c15] at H
            exact absurd H (by simp)
          ·rw [if_neg c14] at H
           exact absurd H (by simp)
         ·rw [if_neg c13] at H
          exact absurd H (by simp)
        ·rw [if_neg c12] at H
         have c12b0 : decide (x31_2 < (y704.length : Int)) = false := yD c12
         clear c12
         simp only [yZ, ya] at H
         obtain ⟨rfl, rfl⟩ := H
         go_wp2
         go_ret2
         exact ⟨by first | rfl | (simp [errW_none, errW_some] <;> rfl) | (simp [*, errW_none, errW_some] <;> rfl), by repeat (first | (with_reducible first | exact HB.out | apply zJ | apply zD | apply zE) | exact HB.out)⟩
  ·replace c3 := yh.mpr c3
   subst c3
   have H1 : (some (0, false)) = some (r1, r2) := by rw [if_neg (show ¬ (false = true) by decide)] at H; exact H
   clear H
   have H := H1
   clear H1
   simp only [yZ, ya] at H
   obtain ⟨rfl, rfl⟩ := H
   go_enter Try.func64, Try.ntmps64
   go_wp2_with (first | ((with_reducible refine gate_callee (f := 33) rfl ?_); refine goesL_ (some 11) rfl rfl Try.func33 (by kernel_rfl) rfl #[.int .i64 (l0.length : Int), .int .i64 1, .int .i64 512] rfl (by (try simp only [yH, yI, yJ]); first | done | rfl | (simp only [yG, yF]; rfl)) ?_; (with_reducible refine (dist_between.calls (l0.length : Int) 1 512 false _ A2.out).mono ?_); rintro e w' ⟨rfl, ⟨nd, rfl⟩⟩; refine ⟨_, rfl, ?_⟩))
   go_ret2
   exact ⟨by first | rfl | (simp [errW_none, errW_some] <;> rfl) | (simp [*, errW_none, errW_some] <;> rfl), by repeat (first | (with_reducible first | exact HB.out | apply zJ | apply zD | apply zE) | exact HB.out)⟩

/-! ### bits_Len64: function 86 -/
def bits_Len64.f (a0 : Int) : Option Int := if 0 ≤ a0 ∧ a0 ≤ 18446744073709551615 then some (Go.Lib.bitLen a0.toNat : Nat) else none
theorem bits_Len64.calls (a0 : Int) (r : Int) (w : World) (h : bits_Len64.f a0 = some r) :
    Calls Try.prog 86 #[.int .u64 a0] w fun e w' => e = .returned (.int .i64 r) ∧ Drawn0 w w' := by
  unfold bits_Len64.f at h
  split at h
  · rename_i hn
    injection h with h
    subst h
    exact (Go.Proofs.Ythmckhfjaleomaa.St.bits_Len64 a0 w hn.1 hn.2).mono fun _ _ hh => ⟨hh.1, ⟨0, hh.2⟩⟩
  · cases h

/-! ### fixed_Log2: function 82 -/
mutual
def fixed_Log2.j0 : Nat → Int → Int → Option (Int × Int)
  | 0, _, _ => none
  | k + 1, x4, x5 => fixed_Log2.l0 k x5 x4 0
def fixed_Log2.l0 : Nat → Int → Int → Int → Option (Int × Int)
  | 0, _, _, _ => none
  | k + 1, x5, x6, x26 => if x26 < 16 then (if ((IntKind.u64.wrap (x5 * x5)) / 1073741824) ≥ 2147483648 then (fixed_Log2.l0 k (((IntKind.u64.wrap (x5 * x5)) / 1073741824) / 2) (wrap64 ((wrap64 (x6 * 2)) + 1)) (wrap64 (x26 + 1))) else (fixed_Log2.l0 k ((IntKind.u64.wrap (x5 * x5)) / 1073741824) (wrap64 (x6 * 2)) (wrap64 (x26 + 1)))) else (some (x6, 0))
end
def fixed_Log2.f (k : Nat) (a0 : Int) : Option (Int × Int) := if a0 < 1 then (some (0, 22)) else ((bits_Len64.f (IntKind.u64.wrap (a0))).bind fun t708 => (if (wrap64 (t708 - 1)) > 30 then (if 0 ≤ (wrap64 ((wrap64 (t708 - 1)) - 30)) then (fixed_Log2.j0 k (wrap64 (t708 - 1)) (shr .u64 (IntKind.u64.wrap (a0)) (wrap64 ((wrap64 (t708 - 1)) - 30)))) else (none)) else (if 0 ≤ (wrap64 (30 - (wrap64 (t708 - 1)))) then (fixed_Log2.j0 k (wrap64 (t708 - 1)) (shl .u64 (IntKind.u64.wrap (a0)) (wrap64 (30 - (wrap64 (t708 - 1)))))) else (none))))
theorem fixed_Log2.mono_l : ∀ k, (∀ y0 y1, LeO (fixed_Log2.j0 k y0 y1) (fixed_Log2.j0 (k + 1) y0 y1)) ∧ (∀ y0 y1 y2, LeO (fixed_Log2.l0 k y0 y1 y2) (fixed_Log2.l0 (k + 1) y0 y1 y2))
  | 0 => ⟨fun _ _ r h => by simp [fixed_Log2.j0] at h, fun _ _ _ r h => by simp [fixed_Log2.l0] at h⟩
  | k + 1 => by
    obtain ⟨ih0, ih1⟩ := fixed_Log2.mono_l k
    refine ⟨?_, ?_⟩ <;> (intros; first | unfold fixed_Log2.j0 | unfold fixed_Log2.l0)
    all_goals repeat' first
      | (with_reducible exact ih0 _ _)
      | (with_reducible exact ih1 _ _ _)
      | (with_reducible exact yR _)
      | (with_reducible exact yO _)
      | (with_reducible refine yQ ?_ ?_)
      | (with_reducible refine yP ?_ (fun _ => ?_))
      | exact ih0 _ _
      | exact ih1 _ _ _
      | exact yO _
      | refine yQ ?_ ?_
      | refine yP ?_ (fun _ => ?_)
theorem fixed_Log2.mono : ∀ a0 k, LeO (fixed_Log2.f k a0) (fixed_Log2.f (k + 1) a0) := by
  intro a0 k
  obtain ⟨ih0, ih1⟩ := fixed_Log2.mono_l k
  unfold fixed_Log2.f
  repeat' first
      | (with_reducible exact ih0 _ _)
      | (with_reducible exact ih1 _ _ _)
      | (with_reducible exact yR _)
      | (with_reducible exact yO _)
      | (with_reducible refine yQ ?_ ?_)
      | (with_reducible refine yP ?_ (fun _ => ?_))
      | exact ih0 _ _
      | exact ih1 _ _ _
      | exact yO _
      | refine yQ ?_ ?_
      | refine yP ?_ (fun _ => ?_)
set_option maxHeartbeats 8000000 in
set_option maxRecDepth 100000 in
theorem fixed_Log2.calls (k : Nat) (a0 : Int) (r1 : Int) (r2 : Int) (w : World) (h : fixed_Log2.f k a0 = some (r1, r2)) :
    Calls Try.prog 82 #[.int .i64 a0] w fun e w' => e = .returned (.tuple #[.int .i64 r1, .int .i64 r2]) ∧ Drawn0 w w' := by
  have H : (if a0 < 1 then (some (0, 22)) else ((bits_Len64.f (IntKind.u64.wrap (a0))).bind fun t708 => (if (wrap64 (t708 - 1)) > 30 then (if 0 ≤ (wrap64 ((wrap64 (t708 - 1)) - 30)) then (fixed_Log2.j0 k (wrap64 (t708 - 1)) (shr .u64 (IntKind.u64.wrap (a0)) (wrap64 ((wrap64 (t708 - 1)) - 30)))) else (none)) else (if 0 ≤ (wrap64 (30 - (wrap64 (t708 - 1)))) then (fixed_Log2.j0 k (wrap64 (t708 - 1)) (shl .u64 (IntKind.u64.wrap (a0)) (wrap64 (30 - (wrap64 (t708 - 1)))))) else (none))))) = some (r1, r2) := h
  clear h
  by_cases c2 : a0 < 1
  ·rw [if_pos c2] at H
   have c2b0 : decide (a0 < 1) = true := yC c2
   clear c2
   simp only [yZ, ya] at H
   obtain ⟨rfl, rfl⟩ := H
   go_enter Try.func82, Try.ntmps82
   go_wp2
   go_ret2
   exact ⟨by first | rfl | (simp; done) | (simp [*]; done), by repeat (first | exact Drawn0.refl _ | apply Drawn0.step)⟩
  ·rw [if_neg c2] at H
   have c2b0 : decide (a0 < 1) = false := yD c2
   clear c2
   replace H := yA.mp H
   obtain ⟨t708, A30, H⟩ := H
   replace H : (if (wrap64 (t708 - 1)) > 30 then (if 0 ≤ (wrap64 ((wrap64 (t708 - 1)) - 30)) then (fixed_Log2.j0 k (wrap64 (t708 - 1)) (shr .u64 (IntKind.u64.wrap (a0)) (wrap64 ((wrap64 (t708 - 1)) - 30)))) else (none)) else (if 0 ≤ (wrap64 (30 - (wrap64 (t708 - 1)))) then (fixed_Log2.j0 k (wrap64 (t708 - 1)) (shl .u64 (IntKind.u64.wrap (a0)) (wrap64 (30 - (wrap64 (t708 - 1)))))) else (none))) = some (r1, r2) := H
   have A3 := zK A30
   clear A30
   have HC4 := zK H
   clear H
   go_enter Try.func82, Try.ntmps82
   go_upto_if 16 with (first | ((with_reducible refine gate_callee (f := 86) rfl ?_); refine goesL_ (some 11) rfl rfl Try.func86 (by kernel_rfl) rfl #[.int .u64 (IntKind.u64.wrap (a0))] rfl (by (try simp only [yH, yI, yJ]); first | done | rfl | (simp only [yG, yF]; rfl)) ?_; (with_reducible refine (bits_Len64.calls (IntKind.u64.wrap (a0)) t708 _ A3.out).mono ?_); rintro e w' ⟨rfl, ⟨nd, rfl⟩⟩; refine ⟨_, rfl, ?_⟩))
   (try simp only [Act.put, zA, zB, zC])
   go_cut [5] (fun v5 wc => ∃ (kq : Nat) (x5_3 : Int), v5 = .int .u64 x5_3 ∧ Aside0 (fixed_Log2.j0 kq (wrap64 (t708 - 1)) x5_3 = some (r1, r2)) ∧ Aside0 (kq ≤ k) ∧ Drawn0 w wc)
   case first =>
    have H := HC4.out
    clear HC4
    by_cases c5 : (wrap64 (t708 - 1)) > 30
    ·rw [if_pos c5] at H
     have c5b0 : decide (30 < (wrap64 (t708 - 1))) = true := yC c5
     clear c5
     (first | rw [c5b0] | (simp only [i64_w, i32_w]; rw [c5b0]) | skip)
     obtain ⟨ji6, hji6⟩ : ∃ j_ : Int, (wrap64 ((wrap64 (t708 - 1)) - 30)) = j_ := ⟨_, rfl⟩
     replace H : (if 0 ≤ (ji6) then (fixed_Log2.j0 k (wrap64 (t708 - 1)) (shr .u64 (IntKind.u64.wrap (a0)) (ji6))) else (none)) = some (r1, r2) := by first | (rw [hji6] at H; exact H) | (simp only [hji6] at H ⊢; exact H)
     have hji6w : (IntKind.i64.wrap ((wrap64 (t708 - 1)) - 30)) = ji6 := (i64_w _).trans hji6
     by_cases c7 : 0 ≤ (ji6)
     ·rw [if_pos c7] at H
      have c7b0 := yg c7
      have c7b1 : decide (0 ≤ (ji6)) = true := yC c7
      clear c7
      obtain ⟨ji8, hji8⟩ : ∃ j_ : Int, (shr .u64 (IntKind.u64.wrap (a0)) (ji6)) = j_ := ⟨_, rfl⟩
      replace H : (fixed_Log2.j0 k (wrap64 (t708 - 1)) ji8) = some (r1, r2) := by first | (rw [hji8] at H; exact H) | (simp only [hji8] at H ⊢; exact H)
      have hji8_ : ((IntKind.u64.wrap (a0)) / 2 ^ min (ji6).toNat 64) = ji8 := hji8
      have hji8z : (ji6) ≤ 64 → ((IntKind.u64.wrap (a0)) / 2 ^ (ji6).toNat) = ji8 := shr_small hji8
      have H' := zK H
      clear H
      go_wp2
      go_meet
      case rel => exact ⟨_, (ji8), (by first | rfl | (simp; done) | (simp only [← hji8] <;> (first | rfl | simp)) | (simp [*]; done)), H', ⟨by first | omega | exact yN _⟩, by repeat (first | exact Drawn0.refl _ | apply Drawn0.step)⟩
     ·rw [if_neg c7] at H
      exact absurd H (by simp)
    ·rw [if_neg c5] at H
     have c5b0 : decide (30 < (wrap64 (t708 - 1))) = false := yD c5
     clear c5
     (first | rw [c5b0] | (simp only [i64_w, i32_w]; rw [c5b0]) | skip)
     obtain ⟨ji9, hji9⟩ : ∃ j_ : Int, (wrap64 (30 - (wrap64 (t708 - 1)))) = j_ := ⟨_, rfl⟩
     replace H : (if 0 ≤ (ji9) then (fixed_Log2.j0 k (wrap64 (t708 - 1)) (shl .u64 (IntKind.u64.wrap (a0)) (ji9))) else (none)) = some (r1, r2) := by first | (rw [hji9] at H; exact H) | (simp only [hji9] at H ⊢; exact H)
     have hji9w : (IntKind.i64.wrap (30 - (wrap64 (t708 - 1)))) = ji9 := (i64_w _).trans hji9
     by_cases c10 : 0 ≤ (ji9)
     ·rw [if_pos c10] at H
      have c10b0 := yg c10
      have c10b1 : decide (0 ≤ (ji9)) = true := yC c10
      clear c10
      obtain ⟨ji11, hji11⟩ : ∃ j_ : Int, (shl .u64 (IntKind.u64.wrap (a0)) (ji9)) = j_ := ⟨_, rfl⟩
      replace H : (fixed_Log2.j0 k (wrap64 (t708 - 1)) ji11) = some (r1, r2) := by first | (rw [hji11] at H; exact H) | (simp only [hji11] at H ⊢; exact H)
      have hji11_ : (IntKind.u64.wrap ((IntKind.u64.wrap (a0)) * 2 ^ min (ji9).toNat 64)) = ji11 := hji11
      have hji11z : (ji9) ≤ 64 → (IntKind.u64.wrap ((IntKind.u64.wrap (a0)) * 2 ^ (ji9).toNat)) = ji11 := shl_small hji11
      have H' := zK H
      clear H
      go_wp2
      go_meet
      case rel => exact ⟨_, (ji11), (by first | rfl | (simp; done) | (simp only [← hji11] <;> (first | rfl | simp)) | (simp [*]; done)), H', ⟨by first | omega | exact yN _⟩, by repeat (first | exact Drawn0.refl _ | apply Drawn0.step)⟩
     ·rw [if_neg c10] at H
      exact absurd H (by simp)
   case rest =>
    clear HC4
    try clear c1
    try clear c2
    try clear c2b0
    try clear p2
    try clear c5
    try clear c5b0
    try clear p6
    try clear c7
    try clear c7b0
    try clear c7b1
    try clear c8
    try clear c10
    try clear c10b0
    try clear c10b1
    obtain ⟨kq, x5_3, rfl, HA, HJ3, ⟨mc3, rfl⟩⟩ := hcut
    cases kq with
    | zero => exact absurd HA.out (by simp [fixed_Log2.j0])
    | succ kj3 =>
     have H := HA.out
     clear HA
     simp only [fixed_Log2.j0] at H
     have H' := zK H
     clear H
     go_wp2
     go_loopg [5, 6, 26] kj3 (fun kq v5 v6 v26 w' => ∃ (x5_2 : Int) (x6_2 : Int) (x26_2 : Int), v5 = .int .u64 x5_2 ∧ v6 = .int .i64 x6_2 ∧ v26 = .int .i64 x26_2 ∧ Aside0 (fixed_Log2.l0 kq x5_2 x6_2 x26_2 = some (r1, r2)) ∧ Aside0 (kq ≤ kj3) ∧ Drawn0 w w')
     case atStart => exact ⟨(x5_3), ((wrap64 (t708 - 1))), (0), (by first | rfl | (simp; done) | (simp [*]; done)), (by first | rfl | (simp; done) | (simp [*]; done)), (by first | rfl | (simp; done) | (simp [*]; done)), H', ⟨yN _⟩, by repeat (first | exact Drawn0.refl _ | apply Drawn0.step)⟩
     case round =>
      clear H'
      try clear c1
      try clear c2
      try clear c2b0
      try clear p2
      try clear c3
      try clear c5
      try clear c5b0
      try clear p6
      try clear c7
      try clear c7b0
      try clear c7b1
      try clear c8
      try clear c10
      try clear c10b0
      try clear c10b1
      try clear p2
      try clear p6
      obtain ⟨x5_2, x6_2, x26_2, rfl, rfl, rfl, HA, HK2, ⟨m2, rfl⟩⟩ := hrel
      cases gk with
      | zero => exact absurd HA.out (by simp [fixed_Log2.l0])
      | succ k2 =>
       have H := HA.out
       clear HA
       simp only [fixed_Log2.l0] at H
       by_cases c12 : x26_2 < 16
       ·rw [if_pos c12] at H
        have c12b0 : decide (x26_2 < 16) = true := yC c12
        clear c12
        by_cases c13 : ((IntKind.u64.wrap (x5_2 * x5_2)) / 1073741824) ≥ 2147483648
        ·rw [if_pos c13] at H
         have c13b0 : decide (2147483648 ≤ ((IntKind.u64.wrap (x5_2 * x5_2)) / 1073741824)) = true := yC c13
         clear c13
         have H' := zK H
         clear H
         go_wp2
         go_roundg k2
         case measure => have := HJ3.out; have := HK2.out; omega
         case rel => exact ⟨(((IntKind.u64.wrap (x5_2 * x5_2)) / 1073741824) / 2), (wrap64 ((wrap64 (x6_2 * 2)) + 1)), (wrap64 (x26_2 + 1)), (by first | rfl | (simp; done) | (simp [*]; done)), (by first | rfl | (simp; done) | (simp [*]; done)), (by first | rfl | (simp; done) | (simp [*]; done)), H', ⟨by have := HJ3.out; have := HK2.out; omega⟩, by repeat (first | exact Drawn0.refl _ | apply Drawn0.step)⟩
        ·rw [if_neg c13] at H
         have c13b0 : decide (2147483648 ≤ ((IntKind.u64.wrap (x5_2 * x5_2)) / 1073741824)) = false := yD c13
         clear c13
         have H' := zK H
         clear H
         go_wp2
         go_roundg k2
         case measure => have := HJ3.out; have := HK2.out; omega
         case rel => exact ⟨((IntKind.u64.wrap (x5_2 * x5_2)) / 1073741824), (wrap64 (x6_2 * 2)), (wrap64 (x26_2 + 1)), (by first | rfl | (simp; done) | (simp [*]; done)), (by first | rfl | (simp; done) | (simp [*]; done)), (by first | rfl | (simp; done) | (simp [*]; done)), H', ⟨by have := HJ3.out; have := HK2.out; omega⟩, by repeat (first | exact Drawn0.refl _ | apply Drawn0.step)⟩
       ·rw [if_neg c12] at H
        have c12b0 : decide (x26_2 < 16) = false := yD c12
        clear c12
        simp only [yZ, ya] at H
        obtain ⟨rfl, rfl⟩ := H
        go_wp2
        go_ret2
        exact ⟨by first | rfl | (simp; done) | (simp [*]; done), by repeat (first | exact Drawn0.refl _ | apply Drawn0.step)⟩

/-! ### dist_surprise: function 65 -/
def dist_surprise.f (k : Nat) (a0 : Int) (a1 : Int) : Option (Int) := (fixed_Log2.f k a1).bind fun bt709 => (some (wrap64 ((wrap64 (65536 * a0)) - bt709.1)))
theorem dist_surprise.mono : ∀ a0 a1 k, LeO (dist_surprise.f k a0 a1) (dist_surprise.f (k + 1) a0 a1) := by
  intro a0 a1 k
  unfold dist_surprise.f
  repeat' first
      | (with_reducible exact fixed_Log2.mono _ _)
      | (with_reducible exact yR _)
      | (with_reducible exact yO _)
      | (with_reducible refine yQ ?_ ?_)
      | (with_reducible refine yP ?_ (fun _ => ?_))
      | exact fixed_Log2.mono _ _
      | exact yO _
      | refine yQ ?_ ?_
      | refine yP ?_ (fun _ => ?_)
set_option maxHeartbeats 8000000 in
set_option maxRecDepth 100000 in
theorem dist_surprise.calls (k : Nat) (a0 : Int) (a1 : Int) (r : Int) (w : World) (h : dist_surprise.f k a0 a1 = some r) :
    Calls Try.prog 65 #[.int .i64 a0, .int .i64 a1] w fun e w' => e = .returned (.int .i64 r) ∧ Drawn0 w w' := by
  have H : ((fixed_Log2.f k a1).bind fun bt709 => (some (wrap64 ((wrap64 (65536 * a0)) - bt709.1)))) = some r := h
  clear h
  replace H := yA.mp H
  obtain ⟨⟨t709, t710⟩, A30, H⟩ := H
  replace H : (some (wrap64 ((wrap64 (65536 * a0)) - t709))) = some r := H
  have A3 := zK A30
  clear A30
  obtain rfl := yY H
  go_enter Try.func65, Try.ntmps65
  go_wp2_with (first | ((with_reducible refine gate_callee (f := 82) rfl ?_); refine goesL_ (some 9) rfl rfl Try.func82 (by kernel_rfl) rfl #[.int .i64 a1] rfl (by (try simp only [yH, yI, yJ]); first | done | rfl | (simp only [yG, yF]; rfl)) ?_; (with_reducible refine (fixed_Log2.calls k a1 t709 t710 _ A3.out).mono ?_); rintro e w' ⟨rfl, ⟨nd, rfl⟩⟩; refine ⟨_, rfl, ?_⟩))
  go_ret
  exact ⟨by first | rfl | (simp; done) | (simp [*]; done), by repeat (first | exact Drawn0.refl _ | apply Drawn0.step)⟩

/-! ### dist_Surprise: function 29 -/
def dist_Surprise.f (k : Nat) (l0 : List Int) (a1 : Int) : Option (Int × Int) := (dist_sums.f k l0).bind fun bt711 => (if bt711.2 = true then ((dist_between.f a1 0 (wrap64 ((l0.length : Int) - 1))).bind fun t713 => (if t713 = true then (if 0 ≤ a1 then (if a1 < (l0.length : Int) then (if (rd l0 a1) = 0 then (some (0, 223)) else ((dist_surprise.f k bt711.1 (rd l0 a1)).bind fun t716 => (some (t716, 0)))) else (none)) else (none)) else (some (0, 1)))) else (some (0, 221)))
theorem dist_Surprise.mono : ∀ a0 a1 k, LeO (dist_Surprise.f k a0 a1) (dist_Surprise.f (k + 1) a0 a1) := by
  intro a0 a1 k
  unfold dist_Surprise.f
  repeat' first
      | (with_reducible exact dist_sums.mono _ _)
      | (with_reducible exact dist_surprise.mono _ _ _)
      | (with_reducible exact yR _)
      | (with_reducible exact yO _)
      | (with_reducible refine yQ ?_ ?_)
      | (with_reducible refine yP ?_ (fun _ => ?_))
      | exact dist_sums.mono _ _
      | exact dist_surprise.mono _ _ _
      | exact yO _
      | refine yQ ?_ ?_
      | refine yP ?_ (fun _ => ?_)
set_option maxHeartbeats 8000000 in
set_option maxRecDepth 100000 in
theorem dist_Surprise.calls (k : Nat) (A0 : Option Addr) (c0 : Nat) (l0 : List Int) (a1 : Int) (r1 : Int) (r2 : Int) (w : World) (hr0 : Kd.C (Kd.int .i64) w A0 l0.length l0) (hc0 : l0.length ≤ c0) (h : dist_Surprise.f k l0 a1 = some (r1, r2)) :
    Calls Try.prog 29 #[.slice A0 l0.length c0, .int .i64 a1] w fun e w' => e = .returned (.tuple #[.int .i64 r1, .int .i64 r2]) ∧ Below w.heap.size w w' := by
  have HR0 := zK hr0
  have HC0 := zK hc0
  clear hr0 hc0
  have HB := zK (Below.refl w.heap.size w)
  have H : ((dist_sums.f k l0).bind fun bt711 => (if bt711.2 = true then ((dist_between.f a1 0 (wrap64 ((l0.length : Int) - 1))).bind fun t713 => (if t713 = true then (if 0 ≤ a1 then (if a1 < (l0.length : Int) then (if (rd l0 a1) = 0 then (some (0, 223)) else ((dist_surprise.f k bt711.1 (rd l0 a1)).bind fun t716 => (some (t716, 0)))) else (none)) else (none)) else (some (0, 1)))) else (some (0, 221)))) = some (r1, r2) := h
  clear h
  replace H := yA.mp H
  obtain ⟨⟨t711, t712⟩, A30, H⟩ := H
  replace H : (if t712 = true then ((dist_between.f a1 0 (wrap64 ((l0.length : Int) - 1))).bind fun t713 => (if t713 = true then (if 0 ≤ a1 then (if a1 < (l0.length : Int) then (if (rd l0 a1) = 0 then (some (0, 223)) else ((dist_surprise.f k t711 (rd l0 a1)).bind fun t716 => (some (t716, 0)))) else (none)) else (none)) else (some (0, 1)))) else (some (0, 221))) = some (r1, r2) := H
  have A3 := zK A30
  clear A30
  by_cases c4 : t712 = true
  ·subst c4
   have H1 : ((dist_between.f a1 0 (wrap64 ((l0.length : Int) - 1))).bind fun t713 => (if t713 = true then (if 0 ≤ a1 then (if a1 < (l0.length : Int) then (if (rd l0 a1) = 0 then (some (0, 223)) else ((dist_surprise.f k t711 (rd l0 a1)).bind fun t716 => (some (t716, 0)))) else (none)) else (none)) else (some (0, 1)))) = some (r1, r2) := by rw [if_pos rfl] at H; exact H
   clear H
   have H := H1
   clear H1
   replace H := yA.mp H
   obtain ⟨t713, A50, H⟩ := H
   replace H : (if t713 = true then (if 0 ≤ a1 then (if a1 < (l0.length : Int) then (if (rd l0 a1) = 0 then (some (0, 223)) else ((dist_surprise.f k t711 (rd l0 a1)).bind fun t716 => (some (t716, 0)))) else (none)) else (none)) else (some (0, 1))) = some (r1, r2) := H
   have A5 := zK A50
   clear A50
   by_cases c6 : t713 = true
   ·subst c6
    have H1 : (if 0 ≤ a1 then (if a1 < (l0.length : Int) then (if (rd l0 a1) = 0 then (some (0, 223)) else ((dist_surprise.f k t711 (rd l0 a1)).bind fun t716 => (some (t716, 0)))) else (none)) else (none)) = some (r1, r2) := by rw [if_pos rfl] at H; exact H
    clear H
    have H := H1
    clear H1
    by_cases c7 : 0 ≤ a1
    ·rw [if_pos c7] at H
     have c7b0 : decide (0 ≤ a1) = true := yC c7
     clear c7
     by_cases c8 : a1 < (l0.length : Int)
     ·rw [if_pos c8] at H
      have c8b0 : decide (a1 < (l0.length : Int)) = true := yC c8
      clear c8
      by_cases c9 : (rd l0 a1) = 0
      ·rw [if_pos c9] at H
       have c9b0 : ((rd l0 a1) == 0) = true := beq_iff_eq.mpr c9
       have c9b1 : ((rd l0 a1) != 0) = false := bne_eq_false_iff_eq.mpr c9
       clear c9
       simp only [yZ, ya] at H
       obtain ⟨rfl, rfl⟩ := H
       go_enter Try.func29, Try.ntmps29
       go_wp2_with (first | ((with_reducible refine gate_callee (f := 64) rfl ?_); refine goesL_ (some 10) rfl rfl Try.func64 (by kernel_rfl) rfl #[.slice A0 l0.length c0] rfl (by (try simp only [yH, yI, yJ]); first | done | rfl | (simp only [yG, yF]; rfl)) ?_; (with_reducible refine (dist_sums.calls k _ _ l0 t711 true _ ?side1 ?side2 A3.out).mono ?_); (case side1 => repeat (first | exact HR0.out | (with_reducible refine yS ?_ _) | (with_reducible refine yT ?_ _) | (with_reducible refine yU ?_))); (case side2 => exact HC0.out); rintro e w10 ⟨rfl, hb⟩; refine ⟨_, rfl, ?_⟩; have n0_ := zK (yL (by repeat (first | (with_reducible first | exact HB.out | apply zJ | apply zD | apply zE) | exact HB.out)) hb); clear HB; have HB := n0_; clear n0_; (try clear hb); (try clear hb2); (try clear hk); (try clear hi)) | ((with_reducible refine gate_callee (f := 33) rfl ?_); refine goesL_ (some 21) rfl rfl Try.func33 (by kernel_rfl) rfl #[.int .i64 a1, .int .i64 0, .int .i64 (wrap64 ((l0.length : Int) - 1))] rfl (by (try simp only [yH, yI, yJ]); first | done | rfl | (simp only [yG, yF]; rfl)) ?_; (with_reducible refine (dist_between.calls a1 0 (wrap64 ((l0.length : Int) - 1)) true _ A5.out).mono ?_); rintro e w' ⟨rfl, ⟨nd, rfl⟩⟩; refine ⟨_, rfl, ?_⟩; have p714 : 0 ≤ (a1 : Int) := yB (by first | (with_reducible assumption) | assumption); have q714 : a1 < (l0.length : Int) := yB (by first | (with_reducible assumption) | assumption); obtain ⟨ad714, e714, hx714_0⟩ := Kd.at_int HR0.out a1 p714 q714; cases e714; replace hx714_0 := (HB.out.cell (World.block_lt_of_cell? w _ hx714_0)).trans hx714_0; replace p714 := yg p714; replace q714 := yg q714))
       go_ret2
       exact ⟨by first | rfl | (simp [errW_none, errW_some] <;> rfl) | (simp [*, errW_none, errW_some] <;> rfl), by repeat (first | (with_reducible first | exact HB.out | apply zJ | apply zD | apply zE) | exact HB.out)⟩
      ·rw [if_neg c9] at H
       have c9b0 : ((rd l0 a1) == 0) = false := beq_eq_false_iff_ne.mpr c9
       have c9b1 : ((rd l0 a1) != 0) = true := bne_iff_ne.mpr c9
       replace H := yA.mp H
       obtain ⟨t716, A110, H⟩ := H
       replace H : (some (t716, 0)) = some (r1, r2) := H
       have A11 := zK A110
       clear A110
       simp only [yZ, ya] at H
       obtain ⟨rfl, rfl⟩ := H
       go_enter Try.func29, Try.ntmps29
       go_wp2_with (first | ((with_reducible refine gate_callee (f := 64) rfl ?_); refine goesL_ (some 10) rfl rfl Try.func64 (by kernel_rfl) rfl #[.slice A0 l0.length c0] rfl (by (try simp only [yH, yI, yJ]); first | done | rfl | (simp only [yG, yF]; rfl)) ?_; (with_reducible refine (dist_sums.calls k _ _ l0 t711 true _ ?side1 ?side2 A3.out).mono ?_); (case side1 => repeat (first | exact HR0.out | (with_reducible refine yS ?_ _) | (with_reducible refine yT ?_ _) | (with_reducible refine yU ?_))); (case side2 => exact HC0.out); rintro e w12 ⟨rfl, hb⟩; refine ⟨_, rfl, ?_⟩; have n0_ := zK (yL (by repeat (first | (with_reducible first | exact HB.out | apply zJ | apply zD | apply zE) | exact HB.out)) hb); clear HB; have HB := n0_; clear n0_; (try clear hb); (try clear hb2); (try clear hk); (try clear hi)) | ((with_reducible refine gate_callee (f := 33) rfl ?_); refine goesL_ (some 21) rfl rfl Try.func33 (by kernel_rfl) rfl #[.int .i64 a1, .int .i64 0, .int .i64 (wrap64 ((l0.length : Int) - 1))] rfl (by (try simp only [yH, yI, yJ]); first | done | rfl | (simp only [yG, yF]; rfl)) ?_; (with_reducible refine (dist_between.calls a1 0 (wrap64 ((l0.length : Int) - 1)) true _ A5.out).mono ?_); rintro e w' ⟨rfl, ⟨nd, rfl⟩⟩; refine ⟨_, rfl, ?_⟩; have p714 : 0 ≤ (a1 : Int) := yB (by first | (with_reducible assumption) | assumption); have q714 : a1 < (l0.length : Int) := yB (by first | (with_reducible assumption) | assumption); obtain ⟨ad714, e714, hx714_0⟩ := Kd.at_int HR0.out a1 p714 q714; cases e714; replace hx714_0 := (HB.out.cell (World.block_lt_of_cell? w _ hx714_0)).trans hx714_0; replace p714 := yg p714; replace q714 := yg q714; have p715 : 0 ≤ (a1 : Int) := yB (by first | (with_reducible assumption) | assumption); have q715 : a1 < (l0.length : Int) := yB (by first | (with_reducible assumption) | assumption); obtain ⟨ad715, e715, hx715_0⟩ := Kd.at_int HR0.out a1 p715 q715; obtain rfl : ad714 = ad715 := (by injection e715); replace hx715_0 := (HB.out.cell (World.block_lt_of_cell? w _ hx715_0)).trans hx715_0; replace p715 := yg p715; replace q715 := yg q715) | ((with_reducible refine gate_callee (f := 65) rfl ?_); refine goesL_ (some 34) rfl rfl Try.func65 (by kernel_rfl) rfl #[.int .i64 t711, .int .i64 (rd l0 a1)] rfl (by (try simp only [yH, yI, yJ]); first | done | rfl | (simp only [yG, yF]; rfl)) ?_; (with_reducible refine (dist_surprise.calls k t711 (rd l0 a1) t716 _ A11.out).mono ?_); rintro e w' ⟨rfl, ⟨nd, rfl⟩⟩; refine ⟨_, rfl, ?_⟩))
       go_ret2
       exact ⟨by first | rfl | (simp [errW_none, errW_some] <;> rfl) | (simp [*, errW_none, errW_some] <;> rfl), by repeat (first | (with_reducible first | exact HB.out | apply zJ | apply zD | apply zE) | exact HB.out)⟩
     ·rw [if_neg c8] at H
      exact absurd H (by simp)
    ·rw [if_neg c7] at H
     exact absurd H (by simp)
   ·replace c6 := yh.mpr c6
    subst c6
    have H1 : (some (0, 1)) = some (r1, r2) := by rw [if_neg (show ¬ (false = true) by decide)] at H; exact H
    clear H
    have H := H1
    clear H1
    simp only [yZ, ya] at H
    obtain ⟨rfl, rfl⟩ := H
    go_enter Try.func29, Try.ntmps29
    go_wp2_with (first | ((with_reducible refine gate_callee (f := 64) rfl ?_); refine goesL_ (some 10) rfl rfl Try.func64 (by kernel_rfl) rfl #[.slice A0 l0.length c0] rfl (by (try simp only [yH, yI, yJ]); first | done | rfl | (simp only [yG, yF]; rfl)) ?_; (with_reducible refine (dist_sums.calls k _ _ l0 t711 true _ ?side1 ?side2 A3.out).mono ?_); (case side1 => repeat (first | exact HR0.out | (with_reducible refine yS ?_ _) | (with_reducible refine yT ?_ _) | (with_reducible refine yU ?_))); (case side2 => exact HC0.out); rintro e w13 ⟨rfl, hb⟩; refine ⟨_, rfl, ?_⟩; have n0_ := zK (yL (by repeat (first | (with_reducible first | exact HB.out | apply zJ | apply zD | apply zE) | exact HB.out)) hb); clear HB; have HB := n0_; clear n0_; (try clear hb); (try clear hb2); (try clear hk); (try clear hi)) | ((with_reducible refine gate_callee (f := 33) rfl ?_); refine goesL_ (some 21) rfl rfl Try.func33 (by kernel_rfl) rfl #[.int .i64 a1, .int .i64 0, .int .i64 (wrap64 ((l0.length : Int) - 1))] rfl (by (try simp only [yH, yI, yJ]); first | done | rfl | (simp only [yG, yF]; rfl)) ?_; (with_reducible refine (dist_between.calls a1 0 (wrap64 ((l0.length : Int) - 1)) false _ A5.out).mono ?_); rintro e w' ⟨rfl, ⟨nd, rfl⟩⟩; refine ⟨_, rfl, ?_⟩))
    go_ret2
    exact ⟨by first | rfl | (simp [errW_none, errW_some] <;> rfl) | (simp [*, errW_none, errW_some] <;> rfl), by repeat (first | (with_reducible first | exact HB.out | apply zJ | apply zD | apply zE) | exact HB.out)⟩
  ·replace c4 := yh.mpr c4
   subst c4
   have H1 : (some (0, 221)) = some (r1, r2) := by rw [if_neg (show ¬ (false = true) by decide)] at H; exact H
   clear H
   have H := H1
   clear H1
   simp only [yZ, ya] at H
   obtain ⟨rfl, rfl⟩ := H
   go_enter Try.func29, Try.ntmps29
   go_wp2_with (first | ((with_reducible refine gate_callee (f := 64) rfl ?_); refine goesL_ (some 10) rfl rfl Try.func64 (by kernel_rfl) rfl #[.slice A0 l0.length c0] rfl (by (try simp only [yH, yI, yJ]); first | done | rfl | (simp only [yG, yF]; rfl)) ?_; (with_reducible refine (dist_sums.calls k _ _ l0 t711 false _ ?side1 ?side2 A3.out).mono ?_); (case side1 => repeat (first | exact HR0.out | (with_reducible refine yS ?_ _) | (with_reducible refine yT ?_ _) | (with_reducible refine yU ?_))); (case side2 => exact HC0.out); rintro e w14 ⟨rfl, hb⟩; refine ⟨_, rfl, ?_⟩; have n0_ := zK (yL (by repeat (first | (with_reducible first | exact HB.out | apply zJ | apply zD | apply zE) | exact HB.out)) hb); clear HB; have HB := n0_; clear n0_; (try clear hb); (try clear hb2); (try clear hk); (try clear hi)))
   go_ret2
   exact ⟨by first | rfl | (simp [errW_none, errW_some] <;> rfl) | (simp [*, errW_none, errW_some] <;> rfl), by repeat (first | (with_reducible first | exact HB.out | apply zJ | apply zD | apply zE) | exact HB.out)⟩

end Go.Proofs.Ythmckhfjaleomaa.T
