-- Printed by this session's own driver (wip/tools/xprint.py) over the kit's printer; given functions are this session's own.
import Derived.Test.YthmckhfjaleomaaT0
namespace Go.Proofs.Ythmckhfjaleomaa.T
open Go.RowKit Go.Proofs.YthmckhfjaleomaaW.PrintWords Go.Proofs.YthmckhfjaleomaaW.PrintLast Go.Proofs.YthmckhfjaleomaaW.PrintMore
attribute [local go_sem] max2_int min2_int max_two min_two max_three min_three max_four min_four   -- for this text's walks alone
set_option linter.unusedVariables false
set_option linter.unusedSimpArgs false

/-! ### r22_bits: function 66 -/
mutual
def r22_bits.j0 : Nat → List Int → Bool → Option (Int)
  | 0, _, _ => none
  | k + 1, x0, x15 => if x15 = true then (some 0) else (r22_bits.l0 k 0 x0 (x0.length : Int) 0)
def r22_bits.l0 : Nat → Int → List Int → Int → Int → Option (Int)
  | 0, _, _, _, _ => none
  | k + 1, x3, x16, x17, x18 => if x18 < x17 then (if 0 ≤ x18 then (if x18 < (x16.length : Int) then (if (rd x16 x18) < 0 then (some 0) else (if (rd x16 x18) > 4294967296 then (some 0) else (r22_bits.l0 k (wrap64 (x3 + (rd x16 x18))) x16 x17 (wrap64 (x18 + 1))))) else (none)) else (none)) else ((some (([1, 2, 4, 8, 16, 32] : List Int) : List Int)).bind fun y718 => (r22_bits.l1 k x3 y718 (y718.length : Int) 0))
def r22_bits.l1 : Nat → Int → List Int → Int → Int → Option (Int)
  | 0, _, _, _, _ => none
  | k + 1, x3, x32, x33, x34 => if x34 < x33 then (if 0 ≤ x34 then (if x34 < (x32.length : Int) then (if 0 ≤ (IntKind.u64.wrap (rd x32 x34)) then (if x3 = (shl .i64 1 (IntKind.u64.wrap (rd x32 x34))) then (some (rd x32 x34)) else (r22_bits.l1 k x3 x32 x33 (wrap64 (x34 + 1)))) else (none)) else (none)) else (none)) else (some 0)
end
def r22_bits.f (k : Nat) (l0 : List Int) : Option (Int) := if (l0.length : Int) < 1 then (r22_bits.j0 k l0 true) else (r22_bits.j0 k l0 (decide ((l0.length : Int) > 512)))
theorem r22_bits.mono_l : ∀ k, (∀ y0 y1, LeO (r22_bits.j0 k y0 y1) (r22_bits.j0 (k + 1) y0 y1)) ∧ (∀ y0 y1 y2 y3, LeO (r22_bits.l0 k y0 y1 y2 y3) (r22_bits.l0 (k + 1) y0 y1 y2 y3)) ∧ (∀ y0 y1 y2 y3, LeO (r22_bits.l1 k y0 y1 y2 y3) (r22_bits.l1 (k + 1) y0 y1 y2 y3))
  | 0 => ⟨fun _ _ r h => by simp [r22_bits.j0] at h, fun _ _ _ _ r h => by simp [r22_bits.l0] at h, fun _ _ _ _ r h => by simp [r22_bits.l1] at h⟩
  | k + 1 => by
    obtain ⟨ih0, ih1, ih2⟩ := r22_bits.mono_l k
    refine ⟨?_, ?_, ?_⟩ <;> (intros; first | unfold r22_bits.j0 | unfold r22_bits.l0 | unfold r22_bits.l1)
    all_goals repeat' first
      | (with_reducible exact ih0 _ _)
      | (with_reducible exact ih1 _ _ _ _)
      | (with_reducible exact ih2 _ _ _ _)
      | (with_reducible exact yR _)
      | (with_reducible exact yO _)
      | (with_reducible refine yQ ?_ ?_)
      | (with_reducible refine yP ?_ (fun _ => ?_))
      | exact ih0 _ _
      | exact ih1 _ _ _ _
      | exact ih2 _ _ _ _
      | exact yO _
      | refine yQ ?_ ?_
      | refine yP ?_ (fun _ => ?_)
theorem r22_bits.mono : ∀ a0 k, LeO (r22_bits.f k a0) (r22_bits.f (k + 1) a0) := by
  intro a0 k
  obtain ⟨ih0, ih1, ih2⟩ := r22_bits.mono_l k
  unfold r22_bits.f
  repeat' first
      | (with_reducible exact ih0 _ _)
      | (with_reducible exact ih1 _ _ _ _)
      | (with_reducible exact ih2 _ _ _ _)
      | (with_reducible exact yR _)
      | (with_reducible exact yO _)
      | (with_reducible refine yQ ?_ ?_)
      | (with_reducible refine yP ?_ (fun _ => ?_))
      | exact ih0 _ _
      | exact ih1 _ _ _ _
      | exact ih2 _ _ _ _
      | exact yO _
      | refine yQ ?_ ?_
      | refine yP ?_ (fun _ => ?_)
set_option maxHeartbeats 8000000 in
set_option maxRecDepth 100000 in
theorem r22_bits.calls (k : Nat) (A0 : Option Addr) (c0 : Nat) (l0 : List Int) (r : Int) (w : World) (hr0 : Kd.C (Kd.int .i64) w A0 l0.length l0) (hc0 : l0.length ≤ c0) (h : r22_bits.f k l0 = some r) :
    Calls Try.prog 66 #[.slice A0 l0.length c0] w fun e w' => e = .returned (.int .i64 r) ∧ Below w.heap.size w w' := by
  have HR0 := zK hr0
  have HC0 := zK hc0
  clear hr0 hc0
  have HB := zK (Below.refl w.heap.size w)
  have H : (if (l0.length : Int) < 1 then (r22_bits.j0 k l0 true) else (r22_bits.j0 k l0 (decide ((l0.length : Int) > 512)))) = some r := h
  clear h
  have HC2 := zK H
  clear H
  go_enter Try.func66, Try.ntmps66
  go_upto_region 1 with (fail)
  go_cut [15] (fun v15 wc => ∃ (kq : Nat) (x15_1 : Bool), v15 = .bool x15_1 ∧ Aside0 (r22_bits.j0 kq l0 x15_1 = some r) ∧ Aside0 (kq ≤ k) ∧ Aside0 (Below w.heap.size w wc))
  case first =>
   have H := HC2.out
   clear HC2
   by_cases c3 : (l0.length : Int) < 1
   ·rw [if_pos c3] at H
    have c3b0 : decide ((l0.length : Int) < 1) = true := yC c3
    have c3b1 : decide (l0.length < 1) = true := yC (by omega)
    clear c3
    (first | rw [c3b0] | (simp only [i64_w, i32_w]; rw [c3b0]) | skip)
    have H' := zK H
    clear H
    go_wp2
    go_meet
    case rel => exact ⟨_, (true), (by first | rfl | (simp; done) | (simp [*]; done)), H', ⟨by first | omega | exact yN _⟩, ⟨by repeat (first | (with_reducible first | exact HB.out | apply zJ | apply zD | apply zE) | exact HB.out)⟩⟩
   ·rw [if_neg c3] at H
    have c3b0 : decide ((l0.length : Int) < 1) = false := yD c3
    have c3b1 : decide (l0.length < 1) = false := yD (by omega)
    clear c3
    (first | rw [c3b0] | (simp only [i64_w, i32_w]; rw [c3b0]) | skip)
    have H' := zK H
    clear H
    go_wp2
    go_meet
    case rel => exact ⟨_, (decide ((l0.length : Int) > 512)), (by first | rfl | (simp; done) | (simp [*]; done)), H', ⟨by first | omega | exact yN _⟩, ⟨by repeat (first | (with_reducible first | exact HB.out | apply zJ | apply zD | apply zE) | exact HB.out)⟩⟩
  case rest =>
   clear HC2
   try clear p2
   try clear c3
   try clear c3b0
   try clear c3b1
   obtain ⟨kq, x15_1, rfl, HA, HJ1, HB⟩ := hcut
   cases kq with
   | zero => exact absurd HA.out (by simp [r22_bits.j0])
   | succ kj1 =>
    have H := HA.out
    clear HA
    simp only [r22_bits.j0] at H
    by_cases c4 : x15_1 = true
    ·subst c4
     have H1 : (some 0) = some r := by rw [if_pos rfl] at H; exact H
     clear H
     have H := H1
     clear H1
     obtain rfl := yY H
     go_wp2
     go_ret
     exact ⟨by first | rfl | (simp [errW_none, errW_some] <;> rfl) | (simp [*, errW_none, errW_some] <;> rfl), by repeat (first | (with_reducible first | exact HB.out | apply zJ | apply zD | apply zE) | exact HB.out)⟩
    ·replace c4 := yh.mpr c4
     subst c4
     have H1 : (r22_bits.l0 kj1 0 l0 (l0.length : Int) 0) = some r := by rw [if_neg (show ¬ (false = true) by decide)] at H; exact H
     clear H
     have H := H1
     clear H1
     have H' := zK H
     clear H
     go_wp2
     go_loopg [3, 18] kj1 (fun kq v3 v18 w' => ∃ (x3_2 : Int) (x18_2 : Int), v3 = .int .i64 x3_2 ∧ v18 = .int .i64 x18_2 ∧ Aside0 (r22_bits.l0 kq x3_2 l0 (l0.length : Int) x18_2 = some r) ∧ Aside0 (kq ≤ kj1) ∧ Aside0 (Below w.heap.size w w'))
     case atStart => exact ⟨(0), (0), (by first | rfl | (simp; done) | (simp [*]; done)), (by first | rfl | (simp; done) | (simp [*]; done)), H', ⟨yN _⟩, ⟨by repeat (first | (with_reducible first | exact HB.out | apply zJ | apply zD | apply zE) | exact HB.out)⟩⟩
     case round =>
      clear H'
      try clear p2
      try clear c3
      try clear c3b0
      try clear c3b1
      try clear c4
      try clear p2
      obtain ⟨x3_2, x18_2, rfl, rfl, HA, HK2, HB⟩ := hrel
      cases gk with
      | zero => exact absurd HA.out (by simp [r22_bits.l0])
      | succ k2 =>
       have H := HA.out
       clear HA
       simp only [r22_bits.l0] at H
       by_cases c5 : x18_2 < (l0.length : Int)
       ·rw [if_pos c5] at H
        have c5b0 : decide (x18_2 < (l0.length : Int)) = true := yC c5
        clear c5
        by_cases c6 : 0 ≤ x18_2
        ·rw [if_pos c6] at H
         have c6b0 : decide (0 ≤ x18_2) = true := yC c6
         clear c6
         by_cases c7 : x18_2 < (l0.length : Int)
         ·rw [if_pos c7] at H
          have c7b0 : decide (x18_2 < (l0.length : Int)) = true := yC c7
          clear c7
          by_cases c8 : (rd l0 x18_2) < 0
          ·rw [if_pos c8] at H
           have c8b0 : decide ((rd l0 x18_2) < 0) = true := yC c8
           clear c8
           obtain rfl := yY H
           have p717 : 0 ≤ (x18_2 : Int) := yB (by first | (with_reducible assumption) | assumption)
           have q717 : x18_2 < (l0.length : Int) := yB (by first | (with_reducible assumption) | assumption)
           obtain ⟨ad717, e717, hx717_0⟩ := Kd.at_int HR0.out x18_2 p717 q717
           cases e717
           replace hx717_0 := (HB.out.cell (World.block_lt_of_cell? w _ hx717_0)).trans hx717_0
           replace p717 := yg p717
           replace q717 := yg q717
           go_wp2
           go_ret
           exact ⟨by first | rfl | (simp [errW_none, errW_some] <;> rfl) | (simp [*, errW_none, errW_some] <;> rfl), by repeat (first | (with_reducible first | exact HB.out | apply zJ | apply zD | apply zE) | exact HB.out)⟩
          ·rw [if_neg c8] at H
           have c8b0 : decide ((rd l0 x18_2) < 0) = false := yD c8
           clear c8
           by_cases c9 : (rd l0 x18_2) > 4294967296
           ·rw [if_pos c9] at H
            have c9b0 : decide (4294967296 < (rd l0 x18_2)) = true := yC c9
            clear c9
            obtain rfl := yY H
            have p717 : 0 ≤ (x18_2 : Int) := yB (by first | (with_reducible assumption) | assumption)
            have q717 : x18_2 < (l0.length : Int) := yB (by first | (with_reducible assumption) | assumption)
            obtain ⟨ad717, e717, hx717_0⟩ := Kd.at_int HR0.out x18_2 p717 q717
            cases e717
            replace hx717_0 := (HB.out.cell (World.block_lt_of_cell? w _ hx717_0)).trans hx717_0
            replace p717 := yg p717
            replace q717 := yg q717
            go_wp2
            go_ret
            exact ⟨by first | rfl | (simp [errW_none, errW_some] <;> rfl) | (simp [*, errW_none, errW_some] <;> rfl), by repeat (first | (with_reducible first | exact HB.out | apply zJ | apply zD | apply zE) | exact HB.out)⟩
           ·rw [if_neg c9] at H
            have c9b0 : decide (4294967296 < (rd l0 x18_2)) = false := yD c9
            clear c9
            have H' := zK H
            clear H
            have p717 : 0 ≤ (x18_2 : Int) := yB (by first | (with_reducible assumption) | assumption)
            have q717 : x18_2 < (l0.length : Int) := yB (by first | (with_reducible assumption) | assumption)
            obtain ⟨ad717, e717, hx717_0⟩ := Kd.at_int HR0.out x18_2 p717 q717
            cases e717
            replace hx717_0 := (HB.out.cell (World.block_lt_of_cell? w _ hx717_0)).trans hx717_0
            replace p717 := yg p717
            replace q717 := yg q717
            go_wp2
            go_roundg k2
            case measure => have := HJ1.out; have := HK2.out; omega
            case rel => exact ⟨(wrap64 (x3_2 + (rd l0 x18_2))), (wrap64 (x18_2 + 1)), (by first | rfl | (simp; done) | (simp [*]; done)), (by first | rfl | (simp; done) | (simp [*]; done)), H', ⟨by have := HJ1.out; have := HK2.out; omega⟩, ⟨by repeat (first | (with_reducible first | exact HB.out | apply zJ | apply zD | apply zE) | exact HB.out)⟩⟩
         ·rw [if_neg c7] at H
          exact absurd H (by simp)
        ·rw [if_neg c6] at H
         exact absurd H (by simp)
       ·rw [if_neg c5] at H
        have c5b0 : decide (x18_2 < (l0.length : Int)) = false := yD c5
        clear c5
        obtain ⟨y718, hy718⟩ : ∃ y_ : List Int, y_ = (([1, 2, 4, 8, 16, 32] : List Int)) := ⟨_, rfl⟩
        replace H : (r22_bits.l1 k2 x3_2 y718 (y718.length : Int) 0) = some r := by first | (rw [hy718]; with_reducible exact H) | (have H2_ := (yV _ _).symm.trans H; rw [hy718]; with_reducible exact H2_) | (have H2_ := (yV _ _).symm.trans H; with_reducible exact H2_) | with_reducible exact H | (rw [hy718]; exact H) | exact H
        have Ny718 := zK hy718
        clear hy718
        have H' := zK H
        clear H
        go_wp2_with (first | ((with_reducible refine gate_dst (N := 32) rfl ?_); refine Kd.R_lit (Kd.int .i64) _ 2 ?hg (N := 32) ?hd (xs := ([1, 2, 4, 8, 16, 32] : List Int)) (inner := [.int .i64 1, .int .i64 2, .int .i64 4, .int .i64 8, .int .i64 16, .int .i64 32]) (ok := fun _ => True) (okp := fun _ => True) ?hr ?hp (fun _ hk => hk) trivial (Below.refl _ _) (yN _) (by simp) ?_; (case hd => rfl); (case hg => rfl); (case hr => first | (go_simp; done) | (go_simp; rfl)); (case hp => exact (Reps.one (show Kd.M (Kd.int .i64) _ _ _ 1 [.int .i64 1] from rfl) (Reps.one (show Kd.M (Kd.int .i64) _ _ _ 2 [.int .i64 2] from rfl) (Reps.one (show Kd.M (Kd.int .i64) _ _ _ 4 [.int .i64 4] from rfl) (Reps.one (show Kd.M (Kd.int .i64) _ _ _ 8 [.int .i64 8] from rfl) (Reps.one (show Kd.M (Kd.int .i64) _ _ _ 16 [.int .i64 16] from rfl) (Reps.one (show Kd.M (Kd.int .i64) _ _ _ 32 [.int .i64 32] from rfl) (Reps.none _ _)))))))); intro v719 w10 ho11 hb hg_ hnew_; clear hg_ hnew_; (first | rw [← Ny718.out] at ho11 | (simp only [Int.reduceToNat] at ho11; rw [← Ny718.out] at ho11)); have n0_ := zK (Kd.R_lower ho11 (yK (by repeat (first | (with_reducible first | exact HB.out | apply zJ | apply zD | apply zE) | exact HB.out)))); have n1_ := zK (yL (by repeat (first | (with_reducible first | exact HB.out | apply zJ | apply zD | apply zE) | exact HB.out)) hb); clear HB; have HO720 := n0_; have HB := n1_; clear n0_ n1_ hb ho11; obtain ⟨Ao12, co12, eo12⟩ := Kd.R_slice HO720.out; subst eo12))
        go_loopg [34] k2 (fun kq v34 w' => ∃ (x34_3 : Int), v34 = .int .i64 x34_3 ∧ Aside0 (r22_bits.l1 kq x3_2 y718 (y718.length : Int) x34_3 = some r) ∧ Aside0 (kq ≤ k2) ∧ Aside0 (Kd.R (Kd.int .i64) 2 w' w.heap.size (fun _ => True) (.slice Ao12 y718.length co12) y718) ∧ Aside0 (Below w.heap.size w w'))
        case atStart => exact ⟨(0), (by first | rfl | (simp; done) | (simp [*]; done)), H', ⟨yN _⟩, ⟨by (with_reducible repeat (first | apply zL | apply zM | apply zN)); exact HO720.out⟩, ⟨by repeat (first | (with_reducible first | exact HB.out | apply zJ | apply zD | apply zE) | exact HB.out)⟩⟩
        case round =>
         clear H'
         try clear p2
         try clear c3
         try clear c3b0
         try clear c3b1
         try clear c4
         try clear c5
         try clear c5b0
         try clear c6
         try clear c6b0
         try clear p6
         try clear c7
         try clear c7b0
         try clear p7
         try clear q7
         try clear hx7
         try clear c8
         try clear c8b0
         try clear c9
         try clear c9b0
         try clear hx717_0
         try clear p2
         try clear p717
         try clear q717
         obtain ⟨x34_3, rfl, HA, HK3, HO_32, HB⟩ := hrel
         cases gk with
         | zero => exact absurd HA.out (by simp [r22_bits.l1])
         | succ k3 =>
          have H := HA.out
          clear HA
          simp only [r22_bits.l1] at H
          by_cases c13 : x34_3 < (y718.length : Int)
          ·rw [if_pos c13] at H
           have c13b0 : decide (x34_3 < (y718.length : Int)) = true := yC c13
           clear c13
           by_cases c14 : 0 ≤ x34_3
           ·rw [if_pos c14] at H
            have c14b0 : decide (0 ≤ x34_3) = true := yC c14
            clear c14
            by_cases c15 : x34_3 < (y718.length : Int)
            ·rw [if_pos c15] at H
             have c15b0 : decide (x34_3 < (y718.length : Int)) = true := yC c15
             clear c15
             obtain ⟨ji16, hji16⟩ : ∃ j_ : Int, (IntKind.u64.wrap (rd y718 x34_3)) = j_ := ⟨_, rfl⟩
             replace H : (if 0 ≤ (ji16) then (if x3_2 = (shl .i64 1 (ji16)) then (some (rd y718 x34_3)) else (r22_bits.l1 k3 x3_2 y718 (y718.length : Int) (wrap64 (x34_3 + 1)))) else (none)) = some r := by first | (rw [hji16] at H; exact H) | (simp only [hji16] at H ⊢; exact H)
             by_cases c17 : 0 ≤ (ji16)
             ·rw [if_pos c17] at H
              have c17b0 := yg c17
              have c17b1 : decide (0 ≤ (ji16)) = true := yC c17
              clear c17
              obtain ⟨ji18, hji18⟩ : ∃ j_ : Int, (shl .i64 1 (ji16)) = j_ := ⟨_, rfl⟩
              replace H : (if x3_2 = (ji18) then (some (rd y718 x34_3)) else (r22_bits.l1 k3 x3_2 y718 (y718.length : Int) (wrap64 (x34_3 + 1)))) = some r := by first | (rw [hji18] at H; exact H) | (simp only [hji18] at H ⊢; exact H)
              have hji18_ : (IntKind.i64.wrap (1 * 2 ^ min (ji16).toNat 64)) = ji18 := hji18
              have hji18z : (ji16) ≤ 64 → (IntKind.i64.wrap (1 * 2 ^ (ji16).toNat)) = ji18 := shl_small hji18
              have hji18u : (IntKind.i64.wrap (2 ^ min (ji16).toNat 64)) = ji18 := by have h_ := hji18_; rw [Int.one_mul] at h_; exact h_
              have hji18v : (ji16) ≤ 64 → (IntKind.i64.wrap (2 ^ (ji16).toNat)) = ji18 := fun hle_ => by have h_ := hji18z hle_; rw [Int.one_mul] at h_; exact h_
              have hji18y : (wrap64 (1 * 2 ^ min (ji16).toNat 64)) = ji18 := (i64_w _).symm.trans hji18_
              have hji18x : (ji16) ≤ 64 → (wrap64 (1 * 2 ^ (ji16).toNat)) = ji18 := fun h_ => (i64_w _).symm.trans (hji18z h_)
              by_cases c19 : x3_2 = (ji18)
              ·rw [if_pos c19] at H
               have c19b0 : (x3_2 == (ji18)) = true := beq_iff_eq.mpr c19
               have c19b1 : (x3_2 != (ji18)) = false := bne_eq_false_iff_eq.mpr c19
               clear c19
               obtain rfl := yY H
               have p721 : 0 ≤ (x34_3 : Int) := yB (by first | (with_reducible assumption) | assumption)
               have q721 : x34_3 < (y718.length : Int) := yB (by first | (with_reducible assumption) | assumption)
               obtain ⟨ad721, e721, hx721_0⟩ := Kd.at_int (yM HO_32.out).2.2 x34_3 p721 q721
               cases e721
               replace p721 := yg p721
               replace q721 := yg q721
               go_wp2
               go_ret
               exact ⟨by first | rfl | (simp [errW_none, errW_some] <;> rfl) | (simp only [← hji16, ← hji18]; first | rfl | (simp [errW_none, errW_some] <;> rfl)) | (simp [*, errW_none, errW_some] <;> rfl), by repeat (first | (with_reducible first | exact HB.out | apply zJ | apply zD | apply zE) | exact HB.out)⟩
              ·rw [if_neg c19] at H
               have c19b0 : (x3_2 == (ji18)) = false := beq_eq_false_iff_ne.mpr c19
               have c19b1 : (x3_2 != (ji18)) = true := bne_iff_ne.mpr c19
               have H' := zK H
               clear H
               have p721 : 0 ≤ (x34_3 : Int) := yB (by first | (with_reducible assumption) | assumption)
               have q721 : x34_3 < (y718.length : Int) := yB (by first | (with_reducible assumption) | assumption)
               obtain ⟨ad721, e721, hx721_0⟩ := Kd.at_int (yM HO_32.out).2.2 x34_3 p721 q721
               cases e721
               replace p721 := yg p721
               replace q721 := yg q721
               go_wp2
               go_roundg k3
               case measure => have := HJ1.out; have := HK2.out; have := HK3.out; omega
               case rel => exact ⟨(wrap64 (x34_3 + 1)), (by first | rfl | (simp; done) | (simp [*]; done)), H', ⟨by have := HJ1.out; have := HK2.out; have := HK3.out; omega⟩, ⟨by (with_reducible repeat (first | apply zL | apply zM | apply zN)); exact HO_32.out⟩, ⟨by repeat (first | (with_reducible first | exact HB.out | apply zJ | apply zD | apply zE) | exact HB.out)⟩⟩
             ·rw [if_neg c17] at H
              exact absurd H (by simp)
            ·rw [if_neg c15] at H
             exact absurd H (by simp)
           ·rw [if_neg c14] at H
            exact absurd H (by simp)
          ·rw [if_neg c13] at H
           have c13b0 : decide (x34_3 < (y718.length : Int)) = false := yD c13
           clear c13
           obtain rfl := yY H
           go_wp2
           go_ret
           exact ⟨by first | rfl | (simp [errW_none, errW_some] <;> rfl) | (simp [*, errW_none, errW_some] <;> rfl), by repeat (first | (with_reducible first | exact HB.out | apply zJ | apply zD | apply zE) | exact HB.out)⟩

/-! ### r02_Log2: function 67 -/
mutual
def r02_Log2.l0 : Nat → Int → Int → Int → Option (Int × Int)
  | 0, _, _, _ => none
  | k + 1, x0, x4, x5 => if x5 > 1 then (r02_Log2.l0 k x0 (wrap64 (x4 + 1)) (wrap64 (Int.tdiv x5 2))) else (r02_Log2.l1 k x4 x0 x4)
def r02_Log2.l1 : Nat → Int → Int → Int → Option (Int × Int)
  | 0, _, _, _ => none
  | k + 1, x4, x6, x7 => if x7 < 30 then (r02_Log2.l1 k x4 (wrap64 (x6 * 2)) (wrap64 (x7 + 1))) else (r02_Log2.l2 k x4 x6 x4)
def r02_Log2.l2 : Nat → Int → Int → Int → Option (Int × Int)
  | 0, _, _, _ => none
  | k + 1, x4, x6, x8 => if x8 > 30 then (r02_Log2.l2 k x4 (wrap64 (Int.tdiv x6 2)) (wrap64 (x8 - 1))) else (r02_Log2.l3 k x4 x6 0 0)
def r02_Log2.l3 : Nat → Int → Int → Int → Int → Option (Int × Int)
  | 0, _, _, _, _ => none
  | k + 1, x4, x6, x9, x10 => if x10 < 16 then (if (wrap64 (Int.tdiv (wrap64 (x6 * x6)) 1073741824)) ≥ 2147483648 then (r02_Log2.l3 k x4 (wrap64 (Int.tdiv (wrap64 (Int.tdiv (wrap64 (x6 * x6)) 1073741824)) 2)) (wrap64 ((wrap64 (x9 * 2)) + 1)) (wrap64 (x10 + 1))) else (r02_Log2.l3 k x4 (wrap64 (Int.tdiv (wrap64 (x6 * x6)) 1073741824)) (wrap64 (x9 * 2)) (wrap64 (x10 + 1)))) else (some (wrap64 ((wrap64 (65536 * x4)) + x9), 0))
end
def r02_Log2.f (k : Nat) (a0 : Int) : Option (Int × Int) := if a0 < 1 then (some (0, 22)) else (r02_Log2.l0 k a0 0 a0)
theorem r02_Log2.mono_l : ∀ k, (∀ y0 y1 y2, LeO (r02_Log2.l0 k y0 y1 y2) (r02_Log2.l0 (k + 1) y0 y1 y2)) ∧ (∀ y0 y1 y2, LeO (r02_Log2.l1 k y0 y1 y2) (r02_Log2.l1 (k + 1) y0 y1 y2)) ∧ (∀ y0 y1 y2, LeO (r02_Log2.l2 k y0 y1 y2) (r02_Log2.l2 (k + 1) y0 y1 y2)) ∧ (∀ y0 y1 y2 y3, LeO (r02_Log2.l3 k y0 y1 y2 y3) (r02_Log2.l3 (k + 1) y0 y1 y2 y3))
  | 0 => ⟨fun _ _ _ r h => by simp [r02_Log2.l0] at h, fun _ _ _ r h => by simp [r02_Log2.l1] at h, fun _ _ _ r h => by simp [r02_Log2.l2] at h, fun _ _ _ _ r h => by simp [r02_Log2.l3] at h⟩
  | k + 1 => by
    obtain ⟨ih0, ih1, ih2, ih3⟩ := r02_Log2.mono_l k
    refine ⟨?_, ?_, ?_, ?_⟩ <;> (intros; first | unfold r02_Log2.l0 | unfold r02_Log2.l1 | unfold r02_Log2.l2 | unfold r02_Log2.l3)
    all_goals repeat' first
      | (with_reducible exact ih0 _ _ _)
      | (with_reducible exact ih1 _ _ _)
      | (with_reducible exact ih2 _ _ _)
      | (with_reducible exact ih3 _ _ _ _)
      | (with_reducible exact yR _)
      | (with_reducible exact yO _)
      | (with_reducible refine yQ ?_ ?_)
      | (with_reducible refine yP ?_ (fun _ => ?_))
      | exact ih0 _ _ _
      | exact ih1 _ _ _
      | exact ih2 _ _ _
      | exact ih3 _ _ _ _
      | exact yO _
      | refine yQ ?_ ?_
      | refine yP ?_ (fun _ => ?_)
theorem r02_Log2.mono : ∀ a0 k, LeO (r02_Log2.f k a0) (r02_Log2.f (k + 1) a0) := by
  intro a0 k
  obtain ⟨ih0, ih1, ih2, ih3⟩ := r02_Log2.mono_l k
  unfold r02_Log2.f
  repeat' first
      | (with_reducible exact ih0 _ _ _)
      | (with_reducible exact ih1 _ _ _)
      | (with_reducible exact ih2 _ _ _)
      | (with_reducible exact ih3 _ _ _ _)
      | (with_reducible exact yR _)
      | (with_reducible exact yO _)
      | (with_reducible refine yQ ?_ ?_)
      | (with_reducible refine yP ?_ (fun _ => ?_))
      | exact ih0 _ _ _
      | exact ih1 _ _ _
      | exact ih2 _ _ _
      | exact ih3 _ _ _ _
      | exact yO _
      | refine yQ ?_ ?_
      | refine yP ?_ (fun _ => ?_)
set_option maxHeartbeats 8000000 in
set_option maxRecDepth 100000 in
theorem r02_Log2.calls (k : Nat) (a0 : Int) (r1 : Int) (r2 : Int) (w : World) (h : r02_Log2.f k a0 = some (r1, r2)) :
    Calls Try.prog 67 #[.int .i64 a0] w fun e w' => e = .returned (.tuple #[.int .i64 r1, .int .i64 r2]) ∧ Drawn0 w w' := by
  have H : (if a0 < 1 then (some (0, 22)) else (r02_Log2.l0 k a0 0 a0)) = some (r1, r2) := h
  clear h
  by_cases c2 : a0 < 1
  ·rw [if_pos c2] at H
   have c2b0 : decide (a0 < 1) = true := yC c2
   clear c2
   simp only [yZ, ya] at H
   obtain ⟨rfl, rfl⟩ := H
   go_enter Try.func67, Try.ntmps67
   go_wp2
   go_ret2
   exact ⟨by first | rfl | (simp; done) | (simp [*]; done), by repeat (first | exact Drawn0.refl _ | apply Drawn0.step)⟩
  ·rw [if_neg c2] at H
   have c2b0 : decide (a0 < 1) = false := yD c2
   clear c2
   have H' := zK H
   clear H
   go_enter Try.func67, Try.ntmps67
   go_wp2
   go_loopg [4, 5] k (fun kq v4 v5 w' => ∃ (x4_1 : Int) (x5_1 : Int), v4 = .int .i64 x4_1 ∧ v5 = .int .i64 x5_1 ∧ Aside0 (r02_Log2.l0 kq a0 x4_1 x5_1 = some (r1, r2)) ∧ Aside0 (kq ≤ k) ∧ Drawn0 w w')
   case atStart => exact ⟨(0), (a0), (by first | rfl | (simp; done) | (simp [*]; done)), (by first | rfl | (simp; done) | (simp [*]; done)), H', ⟨yN _⟩, by repeat (first | exact Drawn0.refl _ | apply Drawn0.step)⟩
   case round =>
    clear H'
    try clear c2
    try clear c2b0
    try clear p2
    obtain ⟨x4_1, x5_1, rfl, rfl, HA, HK1, ⟨m1, rfl⟩⟩ := hrel
    cases gk with
    | zero => exact absurd HA.out (by simp [r02_Log2.l0])
    | succ k1 =>
     have H := HA.out
     clear HA
     simp only [r02_Log2.l0] at H
     by_cases c3 : x5_1 > 1
     ·rw [if_pos c3] at H
      have c3b0 : decide (1 < x5_1) = true := yC c3
      clear c3
      have H' := zK H
      clear H
      go_wp2
      go_roundg k1
      case measure => have := HK1.out; omega
      case rel => exact ⟨(wrap64 (x4_1 + 1)), (wrap64 (Int.tdiv x5_1 2)), (by first | rfl | (simp; done) | (simp [*]; done)), (by first | rfl | (simp; done) | (simp [*]; done)), H', ⟨by have := HK1.out; omega⟩, by repeat (first | exact Drawn0.refl _ | apply Drawn0.step)⟩
     ·rw [if_neg c3] at H
      have c3b0 : decide (1 < x5_1) = false := yD c3
      clear c3
      have H' := zK H
      clear H
      go_wp2
      go_loopg [6, 7] k1 (fun kq v6 v7 w' => ∃ (x6_2 : Int) (x7_2 : Int), v6 = .int .i64 x6_2 ∧ v7 = .int .i64 x7_2 ∧ Aside0 (r02_Log2.l1 kq x4_1 x6_2 x7_2 = some (r1, r2)) ∧ Aside0 (kq ≤ k1) ∧ Drawn0 w w')
      case atStart => exact ⟨(a0), (x4_1), (by first | rfl | (simp; done) | (simp [*]; done)), (by first | rfl | (simp; done) | (simp [*]; done)), H', ⟨yN _⟩, by repeat (first | exact Drawn0.refl _ | apply Drawn0.step)⟩
      case round =>
       clear H'
       try clear c2
       try clear c2b0
       try clear p2
       try clear c3
       try clear c3b0
       try clear p2
       obtain ⟨x6_2, x7_2, rfl, rfl, HA, HK2, ⟨m2, rfl⟩⟩ := hrel
       cases gk with
       | zero => exact absurd HA.out (by simp [r02_Log2.l1])
       | succ k2 =>
        have H := HA.out
        clear HA
        simp only [r02_Log2.l1] at H
        by_cases c4 : x7_2 < 30
        ·rw [if_pos c4] at H
         have c4b0 : decide (x7_2 < 30) = true := yC c4
         clear c4
         have H' := zK H
         clear H
         go_wp2
         go_roundg k2
         case measure => have := HK1.out; have := HK2.out; omega
         case rel => exact ⟨(wrap64 (x6_2 * 2)), (wrap64 (x7_2 + 1)), (by first | rfl | (simp; done) | (simp [*]; done)), (by first | rfl | (simp; done) | (simp [*]; done)), H', ⟨by have := HK1.out; have := HK2.out; omega⟩, by repeat (first | exact Drawn0.refl _ | apply Drawn0.step)⟩
        ·rw [if_neg c4] at H
         have c4b0 : decide (x7_2 < 30) = false := yD c4
         clear c4
         have H' := zK H
         clear H
         go_wp2
         go_loopg [6, 8] k2 (fun kq v6 v8 w' => ∃ (x6_3 : Int) (x8_3 : Int), v6 = .int .i64 x6_3 ∧ v8 = .int .i64 x8_3 ∧ Aside0 (r02_Log2.l2 kq x4_1 x6_3 x8_3 = some (r1, r2)) ∧ Aside0 (kq ≤ k2) ∧ Drawn0 w w')
         case atStart => exact ⟨(x6_2), (x4_1), (by first | rfl | (simp; done) | (simp [*]; done)), (by first | rfl | (simp; done) | (simp [*]; done)), H', ⟨yN _⟩, by repeat (first | exact Drawn0.refl _ | apply Drawn0.step)⟩
         case round =>
          clear H'
          try clear c2
          try clear c2b0
          try clear p2
          try clear c3
          try clear c3b0
          try clear c4
          try clear c4b0
          try clear p2
          obtain ⟨x6_3, x8_3, rfl, rfl, HA, HK3, ⟨m3, rfl⟩⟩ := hrel
          cases gk with
          | zero => exact absurd HA.out (by simp [r02_Log2.l2])
          | succ k3 =>
           have H := HA.out
           clear HA
           simp only [r02_Log2.l2] at H
           by_cases c5 : x8_3 > 30
           ·rw [if_pos c5] at H
            have c5b0 : decide (30 < x8_3) = true := yC c5
            clear c5
            have H' := zK H
            clear H
            go_wp2
            go_roundg k3
            case measure => have := HK1.out; have := HK2.out; have := HK3.out; omega
            case rel => exact ⟨(wrap64 (Int.tdiv x6_3 2)), (wrap64 (x8_3 - 1)), (by first | rfl | (simp; done) | (simp [*]; done)), (by first | rfl | (simp; done) | (simp [*]; done)), H', ⟨by have := HK1.out; have := HK2.out; have := HK3.out; omega⟩, by repeat (first | exact Drawn0.refl _ | apply Drawn0.step)⟩
           ·rw [if_neg c5] at H
            have c5b0 : decide (30 < x8_3) = false := yD c5
            clear c5
            have H' := zK H
            clear H
            go_wp2
            go_loopg [6, 9, 10] k3 (fun kq v6 v9 v10 w' => ∃ (x6_4 : Int) (x9_4 : Int) (x10_4 : Int), v6 = .int .i64 x6_4 ∧ v9 = .int .i64 x9_4 ∧ v10 = .int .i64 x10_4 ∧ Aside0 (r02_Log2.l3 kq x4_1 x6_4 x9_4 x10_4 = some (r1, r2)) ∧ Aside0 (kq ≤ k3) ∧ Drawn0 w w')
            case atStart => exact ⟨(x6_3), (0), (0), (by first | rfl | (simp; done) | (simp [*]; done)), (by first | rfl | (simp; done) | (simp [*]; done)), (by first | rfl | (simp; done) | (simp [*]; done)), H', ⟨yN _⟩, by repeat (first | exact Drawn0.refl _ | apply Drawn0.step)⟩
            case round =>
             clear H'
             try clear c2
             try clear c2b0
             try clear p2
             try clear c3
             try clear c3b0
             try clear c4
             try clear c4b0
             try clear c5
             try clear c5b0
             try clear p2
             obtain ⟨x6_4, x9_4, x10_4, rfl, rfl, rfl, HA, HK4, ⟨m4, rfl⟩⟩ := hrel
             cases gk with
             | zero => exact absurd HA.out (by simp [r02_Log2.l3])
             | succ k4 =>
              have H := HA.out
              clear HA
              simp only [r02_Log2.l3] at H
              by_cases c6 : x10_4 < 16
              ·rw [if_pos c6] at H
               have c6b0 : decide (x10_4 < 16) = true := yC c6
               clear c6
               by_cases c7 : (wrap64 (Int.tdiv (wrap64 (x6_4 * x6_4)) 1073741824)) ≥ 2147483648
               ·rw [if_pos c7] at H
                have c7b0 : decide (2147483648 ≤ (wrap64 (Int.tdiv (wrap64 (x6_4 * x6_4)) 1073741824))) = true := yC c7
                clear c7
                have H' := zK H
                clear H
                go_wp2
                go_roundg k4
                case measure => have := HK1.out; have := HK2.out; have := HK3.out; have := HK4.out; omega
                case rel => exact ⟨(wrap64 (Int.tdiv (wrap64 (Int.tdiv (wrap64 (x6_4 * x6_4)) 1073741824)) 2)), (wrap64 ((wrap64 (x9_4 * 2)) + 1)), (wrap64 (x10_4 + 1)), (by first | rfl | (simp; done) | (simp [*]; done)), (by first | rfl | (simp; done) | (simp [*]; done)), (by first | rfl | (simp; done) | (simp [*]; done)), H', ⟨by have := HK1.out; have := HK2.out; have := HK3.out; have := HK4.out; omega⟩, by repeat (first | exact Drawn0.refl _ | apply Drawn0.step)⟩
               ·rw [if_neg c7] at H
                have c7b0 : decide (2147483648 ≤ (wrap64 (Int.tdiv (wrap64 (x6_4 * x6_4)) 1073741824))) = false := yD c7
                clear c7
                have H' := zK H
                clear H
                go_wp2
                go_roundg k4
                case measure => have := HK1.out; have := HK2.out; have := HK3.out; have := HK4.out; omega
                case rel => exact ⟨(wrap64 (Int.tdiv (wrap64 (x6_4 * x6_4)) 1073741824)), (wrap64 (x9_4 * 2)), (wrap64 (x10_4 + 1)), (by first | rfl | (simp; done) | (simp [*]; done)), (by first | rfl | (simp; done) | (simp [*]; done)), (by first | rfl | (simp; done) | (simp [*]; done)), H', ⟨by have := HK1.out; have := HK2.out; have := HK3.out; have := HK4.out; omega⟩, by repeat (first | exact Drawn0.refl _ | apply Drawn0.step)⟩
              ·rw [if_neg c6] at H
               have c6b0 : decide (x10_4 < 16) = false := yD c6
               clear c6
               simp only [yZ, ya] at H
               obtain ⟨rfl, rfl⟩ := H
               go_wp2
               go_ret2
               exact ⟨by first | rfl | (simp; done) | (simp [*]; done), by repeat (first | exact Drawn0.refl _ | apply Drawn0.step)⟩

/-! ### r22_Surprise: function 30 -/
def r22_Surprise.j0 : Nat → List Int → Int → Int → Bool → Option (Int × Int)
  | 0, _, _, _, _ => none
  | k + 1, x0, x1, x6, x20 => if x20 = true then (some (0, 1)) else (if 0 ≤ x1 then (if x1 < (x0.length : Int) then (if (rd x0 x1) = 0 then (some (0, 223)) else ((r02_Log2.f k (rd x0 x1)).bind fun bt725 => (some (wrap64 ((wrap64 (65536 * x6)) - bt725.1), 0)))) else (none)) else (none))
def r22_Surprise.f (k : Nat) (l0 : List Int) (a1 : Int) : Option (Int × Int) := (r22_bits.f k l0).bind fun t722 => (if t722 = 0 then (some (0, 221)) else (if a1 < 0 then (r22_Surprise.j0 k l0 a1 t722 true) else (r22_Surprise.j0 k l0 a1 t722 (decide (a1 ≥ (l0.length : Int))))))
theorem r22_Surprise.mono_l : ∀ k, (∀ y0 y1 y2 y3, LeO (r22_Surprise.j0 k y0 y1 y2 y3) (r22_Surprise.j0 (k + 1) y0 y1 y2 y3))
  | 0 => fun _ _ _ _ r h => by simp [r22_Surprise.j0] at h
  | k + 1 => by
    have ih0 := r22_Surprise.mono_l k
    intros
    unfold r22_Surprise.j0
    all_goals repeat' first
      | (with_reducible exact ih0 _ _ _ _)
      | (with_reducible exact r02_Log2.mono _ _)
      | (with_reducible exact r22_bits.mono _ _)
      | (with_reducible exact yR _)
      | (with_reducible exact yO _)
      | (with_reducible refine yQ ?_ ?_)
      | (with_reducible refine yP ?_ (fun _ => ?_))
      | exact ih0 _ _ _ _
      | exact r02_Log2.mono _ _
      | exact r22_bits.mono _ _
      | exact yO _
      | refine yQ ?_ ?_
      | refine yP ?_ (fun _ => ?_)
theorem r22_Surprise.mono : ∀ a0 a1 k, LeO (r22_Surprise.f k a0 a1) (r22_Surprise.f (k + 1) a0 a1) := by
  intro a0 a1 k
  have ih0 := r22_Surprise.mono_l k
  unfold r22_Surprise.f
  repeat' first
      | (with_reducible exact ih0 _ _ _ _)
      | (with_reducible exact r02_Log2.mono _ _)
      | (with_reducible exact r22_bits.mono _ _)
      | (with_reducible exact yR _)
      | (with_reducible exact yO _)
      | (with_reducible refine yQ ?_ ?_)
      | (with_reducible refine yP ?_ (fun _ => ?_))
      | exact ih0 _ _ _ _
      | exact r02_Log2.mono _ _
      | exact r22_bits.mono _ _
      | exact yO _
      | refine yQ ?_ ?_
      | refine yP ?_ (fun _ => ?_)
set_option maxHeartbeats 8000000 in
set_option maxRecDepth 100000 in
theorem r22_Surprise.calls (k : Nat) (A0 : Option Addr) (c0 : Nat) (l0 : List Int) (a1 : Int) (r1 : Int) (r2 : Int) (w : World) (hr0 : Kd.C (Kd.int .i64) w A0 l0.length l0) (hc0 : l0.length ≤ c0) (h : r22_Surprise.f k l0 a1 = some (r1, r2)) :
    Calls Try.prog 30 #[.slice A0 l0.length c0, .int .i64 a1] w fun e w' => e = .returned (.tuple #[.int .i64 r1, .int .i64 r2]) ∧ Below w.heap.size w w' := by
  have HR0 := zK hr0
  have HC0 := zK hc0
  clear hr0 hc0
  have HB := zK (Below.refl w.heap.size w)
  have H : ((r22_bits.f k l0).bind fun t722 => (if t722 = 0 then (some (0, 221)) else (if a1 < 0 then (r22_Surprise.j0 k l0 a1 t722 true) else (r22_Surprise.j0 k l0 a1 t722 (decide (a1 ≥ (l0.length : Int))))))) = some (r1, r2) := h
  clear h
  replace H := yA.mp H
  obtain ⟨t722, A30, H⟩ := H
  replace H : (if t722 = 0 then (some (0, 221)) else (if a1 < 0 then (r22_Surprise.j0 k l0 a1 t722 true) else (r22_Surprise.j0 k l0 a1 t722 (decide (a1 ≥ (l0.length : Int)))))) = some (r1, r2) := H
  have A3 := zK A30
  clear A30
  by_cases c4 : t722 = 0
  ·rw [if_pos c4] at H
   have c4b0 : (t722 == 0) = true := beq_iff_eq.mpr c4
   have c4b1 : (t722 != 0) = false := bne_eq_false_iff_eq.mpr c4
   clear c4
   simp only [yZ, ya] at H
   obtain ⟨rfl, rfl⟩ := H
   go_enter Try.func30, Try.ntmps30
   go_wp2_with (first | ((with_reducible refine gate_callee (f := 66) rfl ?_); refine goesL_ (some 10) rfl rfl Try.func66 (by kernel_rfl) rfl #[.slice A0 l0.length c0] rfl (by (try simp only [yH, yI, yJ]); first | done | rfl | (simp only [yG, yF]; rfl)) ?_; (with_reducible refine (r22_bits.calls k _ _ l0 t722 _ ?side1 ?side2 A3.out).mono ?_); (case side1 => repeat (first | exact HR0.out | (with_reducible refine yS ?_ _) | (with_reducible refine yT ?_ _) | (with_reducible refine yU ?_))); (case side2 => exact HC0.out); rintro e w5 ⟨rfl, hb⟩; refine ⟨_, rfl, ?_⟩; have n0_ := zK (yL (by repeat (first | (with_reducible first | exact HB.out | apply zJ | apply zD | apply zE) | exact HB.out)) hb); clear HB; have HB := n0_; clear n0_; (try clear hb); (try clear hb2); (try clear hk); (try clear hi)))
   go_ret2
   exact ⟨by first | rfl | (simp [errW_none, errW_some] <;> rfl) | (simp [*, errW_none, errW_some] <;> rfl), by repeat (first | (with_reducible first | exact HB.out | apply zJ | apply zD | apply zE) | exact HB.out)⟩
  ·rw [if_neg c4] at H
   have c4b0 : (t722 == 0) = false := beq_eq_false_iff_ne.mpr c4
   have c4b1 : (t722 != 0) = true := bne_iff_ne.mpr c4
   have HC6 := zK H
   clear H
   go_enter Try.func30, Try.ntmps30
   go_upto_region 4 with (first | ((with_reducible refine gate_callee (f := 66) rfl ?_); refine goesL_ (some 10) rfl rfl Try.func66 (by kernel_rfl) rfl #[.slice A0 l0.length c0] rfl (by (try simp only [yH, yI, yJ]); first | done | rfl | (simp only [yG, yF]; rfl)) ?_; (with_reducible refine (r22_bits.calls k _ _ l0 t722 _ ?side1 ?side2 A3.out).mono ?_); (case side1 => repeat (first | exact HR0.out | (with_reducible refine yS ?_ _) | (with_reducible refine yT ?_ _) | (with_reducible refine yU ?_))); (case side2 => exact HC0.out); rintro e w7 ⟨rfl, hb⟩; refine ⟨_, rfl, ?_⟩; have n0_ := zK (yL (by repeat (first | (with_reducible first | exact HB.out | apply zJ | apply zD | apply zE) | exact HB.out)) hb); clear HB; have HB := n0_; clear n0_; (try clear hb); (try clear hb2); (try clear hk); (try clear hi)))
   (try simp only [Act.put, zA, zB, zC])
   go_cut [20] (fun v20 wc => ∃ (kq : Nat) (x20_5 : Bool), v20 = .bool x20_5 ∧ Aside0 (r22_Surprise.j0 kq l0 a1 t722 x20_5 = some (r1, r2)) ∧ Aside0 (kq ≤ k) ∧ Aside0 (Below w.heap.size w wc))
   case first =>
    have H := HC6.out
    clear HC6
    by_cases c8 : a1 < 0
    ·rw [if_pos c8] at H
     have c8b0 : decide (a1 < 0) = true := yC c8
     clear c8
     (first | rw [c8b0] | (simp only [i64_w, i32_w]; rw [c8b0]) | skip)
     have H' := zK H
     clear H
     go_wp2
     go_meet
     case rel => exact ⟨_, (true), (by first | rfl | (simp; done) | (simp [*]; done)), H', ⟨by first | omega | exact yN _⟩, ⟨by repeat (first | (with_reducible first | exact HB.out | apply zJ | apply zD | apply zE) | exact HB.out)⟩⟩
    ·rw [if_neg c8] at H
     have c8b0 : decide (a1 < 0) = false := yD c8
     clear c8
     (first | rw [c8b0] | (simp only [i64_w, i32_w]; rw [c8b0]) | skip)
     have H' := zK H
     clear H
     go_wp2
     go_meet
     case rel => exact ⟨_, (decide (a1 ≥ (l0.length : Int))), (by first | rfl | (simp; done) | (simp [*]; done)), H', ⟨by first | omega | exact yN _⟩, ⟨by repeat (first | (with_reducible first | exact HB.out | apply zJ | apply zD | apply zE) | exact HB.out)⟩⟩
   case rest =>
    clear HC6
    try clear p2
    try clear c3
    try clear c4
    try clear c4b0
    try clear c4b1
    try clear c6
    try clear c8
    try clear c8b0
    obtain ⟨kq, x20_5, rfl, HA, HJ5, HB⟩ := hcut
    cases kq with
    | zero => exact absurd HA.out (by simp [r22_Surprise.j0])
    | succ kj5 =>
     have H := HA.out
     clear HA
     simp only [r22_Surprise.j0] at H
     by_cases c9 : x20_5 = true
     ·subst c9
      have H1 : (some (0, 1)) = some (r1, r2) := by rw [if_pos rfl] at H; exact H
      clear H
      have H := H1
      clear H1
      simp only [yZ, ya] at H
      obtain ⟨rfl, rfl⟩ := H
      go_wp2
      go_ret2
      exact ⟨by first | rfl | (simp [errW_none, errW_some] <;> rfl) | (simp [*, errW_none, errW_some] <;> rfl), by repeat (first | (with_reducible first | exact HB.out | apply zJ | apply zD | apply zE) | exact HB.out)⟩
     ·replace c9 := yh.mpr c9
      subst c9
      have H1 : (if 0 ≤ a1 then (if a1 < (l0.length : Int) then (if (rd l0 a1) = 0 then (some (0, 223)) else ((r02_Log2.f kj5 (rd l0 a1)).bind fun bt725 => (some (wrap64 ((wrap64 (65536 * t722)) - bt725.1), 0)))) else (none)) else (none)) = some (r1, r2) := by rw [if_neg (show ¬ (false = true) by decide)] at H; exact H
      clear H
      have H := H1
      clear H1
      by_cases c10 : 0 ≤ a1
      ·rw [if_pos c10] at H
       have c10b0 : decide (0 ≤ a1) = true := yC c10
       clear c10
       by_cases c11 : a1 < (l0.length : Int)
       ·rw [if_pos c11] at H
        have c11b0 : decide (a1 < (l0.length : Int)) = true := yC c11
        clear c11
        by_cases c12 : (rd l0 a1) = 0
        ·rw [if_pos c12] at H
         have c12b0 : ((rd l0 a1) == 0) = true := beq_iff_eq.mpr c12
         have c12b1 : ((rd l0 a1) != 0) = false := bne_eq_false_iff_eq.mpr c12
         clear c12
         simp only [yZ, ya] at H
         obtain ⟨rfl, rfl⟩ := H
         have p723 : 0 ≤ (a1 : Int) := yB (by first | (with_reducible assumption) | assumption)
         have q723 : a1 < (l0.length : Int) := yB (by first | (with_reducible assumption) | assumption)
         obtain ⟨ad723, e723, hx723_0⟩ := Kd.at_int HR0.out a1 p723 q723
         cases e723
         replace hx723_0 := (HB.out.cell (World.block_lt_of_cell? w _ hx723_0)).trans hx723_0
         replace p723 := yg p723
         replace q723 := yg q723
         go_wp2
         go_ret2
         exact ⟨by first | rfl | (simp [errW_none, errW_some] <;> rfl) | (simp [*, errW_none, errW_some] <;> rfl), by repeat (first | (with_reducible first | exact HB.out | apply zJ | apply zD | apply zE) | exact HB.out)⟩
        ·rw [if_neg c12] at H
         have c12b0 : ((rd l0 a1) == 0) = false := beq_eq_false_iff_ne.mpr c12
         have c12b1 : ((rd l0 a1) != 0) = true := bne_iff_ne.mpr c12
         replace H := yA.mp H
         obtain ⟨⟨t725, t726⟩, A130, H⟩ := H
         replace H : (some (wrap64 ((wrap64 (65536 * t722)) - t725), 0)) = some (r1, r2) := H
         have A13 := zK A130
         clear A130
         simp only [yZ, ya] at H
         obtain ⟨rfl, rfl⟩ := H
         have p723 : 0 ≤ (a1 : Int) := yB (by first | (with_reducible assumption) | assumption)
         have q723 : a1 < (l0.length : Int) := yB (by first | (with_reducible assumption) | assumption)
         obtain ⟨ad723, e723, hx723_0⟩ := Kd.at_int HR0.out a1 p723 q723
         cases e723
         replace hx723_0 := (HB.out.cell (World.block_lt_of_cell? w _ hx723_0)).trans hx723_0
         replace p723 := yg p723
         replace q723 := yg q723
         have p724 : 0 ≤ (a1 : Int) := yB (by first | (with_reducible assumption) | assumption)
         have q724 : a1 < (l0.length : Int) := yB (by first | (with_reducible assumption) | assumption)
         obtain ⟨ad724, e724, hx724_0⟩ := Kd.at_int HR0.out a1 p724 q724
         obtain rfl : ad723 = ad724 := (by injection e724)
         replace hx724_0 := (HB.out.cell (World.block_lt_of_cell? w _ hx724_0)).trans hx724_0
         replace p724 := yg p724
         replace q724 := yg q724
         go_wp2_with (first | ((with_reducible refine gate_callee (f := 67) rfl ?_); refine goesL_ (some 31) rfl rfl Try.func67 (by kernel_rfl) rfl #[.int .i64 (rd l0 a1)] rfl (by (try simp only [yH, yI, yJ]); first | done | rfl | (simp only [yG, yF]; rfl)) ?_; (with_reducible refine (r02_Log2.calls kj5 (rd l0 a1) t725 t726 _ A13.out).mono ?_); rintro e w' ⟨rfl, ⟨nd, rfl⟩⟩; refine ⟨_, rfl, ?_⟩))
         go_ret2
         exact ⟨by first | rfl | (simp [errW_none, errW_some] <;> rfl) | (simp [*, errW_none, errW_some] <;> rfl), by repeat (first | (with_reducible first | exact HB.out | apply zJ | apply zD | apply zE) | exact HB.out)⟩
       ·rw [if_neg c11] at H
        exact absurd H (by simp)
      ·rw [if_neg c10] at H
       exact absurd H (by simp)

end Go.Proofs.Ythmckhfjaleomaa.T
