-- Printed by this session's own driver (wip/tools/xprint.py) over the kit's printer; given functions are this session's own.
import Derived.Test.YthmckhfjaleomaaT0
import Derived.Test.YthmckhfjaleomaaT2
namespace Go.Proofs.Ythmckhfjaleomaa.T
open Go.RowKit Go.Proofs.YthmckhfjaleomaaW.PrintWords Go.Proofs.YthmckhfjaleomaaW.PrintLast Go.Proofs.YthmckhfjaleomaaW.PrintMore
attribute [local go_sem] max2_int min2_int max_two min_two max_three min_three max_four min_four   -- for this text's walks alone
set_option linter.unusedVariables false
set_option linter.unusedSimpArgs false

/-! ### rank_sum: function 76 -/
def rank_sum.l0 : Nat → Int → List Int → Int → Int → Option (Int × Int)
  | 0, _, _, _, _ => none
  | k + 1, x4, x10, x11, x12 => if x12 < x11 then (if 0 ≤ x12 then (if x12 < (x10.length : Int) then (if (rd x10 x12) < 0 then (some (0, 70)) else (if (rd x10 x12) > 1073741824 then (some (0, 70)) else (rank_sum.l0 k (wrap64 (x4 + (rd x10 x12))) x10 x11 (wrap64 (x12 + 1))))) else (none)) else (none)) else (if x4 = 0 then (some (0, 71)) else (some (x4, 0)))
def rank_sum.f (k : Nat) (l0 : List Int) : Option (Int × Int) := if (l0.length : Int) > 4096 then (some (0, 70)) else (rank_sum.l0 k 0 l0 (l0.length : Int) 0)
theorem rank_sum.mono_l : ∀ k, (∀ y0 y1 y2 y3, LeO (rank_sum.l0 k y0 y1 y2 y3) (rank_sum.l0 (k + 1) y0 y1 y2 y3))
  | 0 => fun _ _ _ _ r h => by simp [rank_sum.l0] at h
  | k + 1 => by
    have ih0 := rank_sum.mono_l k
    intros
    unfold rank_sum.l0
    all_goals repeat' first
      | (with_reducible exact ih0 _ _ _ _)
      | (with_reducible exact yR _)
      | (with_reducible exact yO _)
      | (with_reducible refine yQ ?_ ?_)
      | (with_reducible refine yP ?_ (fun _ => ?_))
      | exact ih0 _ _ _ _
      | exact yO _
      | refine yQ ?_ ?_
      | refine yP ?_ (fun _ => ?_)
theorem rank_sum.mono : ∀ a0 k, LeO (rank_sum.f k a0) (rank_sum.f (k + 1) a0) := by
  intro a0 k
  have ih0 := rank_sum.mono_l k
  unfold rank_sum.f
  repeat' first
      | (with_reducible exact ih0 _ _ _ _)
      | (with_reducible exact yR _)
      | (with_reducible exact yO _)
      | (with_reducible refine yQ ?_ ?_)
      | (with_reducible refine yP ?_ (fun _ => ?_))
      | exact ih0 _ _ _ _
      | exact yO _
      | refine yQ ?_ ?_
      | refine yP ?_ (fun _ => ?_)
set_option maxHeartbeats 8000000 in
set_option maxRecDepth 100000 in
theorem rank_sum.calls (k : Nat) (A0 : Option Addr) (c0 : Nat) (l0 : List Int) (r1 : Int) (r2 : Int) (w : World) (hr0 : Kd.C (Kd.int .i64) w A0 l0.length l0) (hc0 : l0.length ≤ c0) (h : rank_sum.f k l0 = some (r1, r2)) :
    Calls Try.prog 76 #[.slice A0 l0.length c0] w fun e w' => e = .returned (.tuple #[.int .i64 r1, .int .i64 r2]) ∧ Drawn0 w w' := by
  have HR0 := zK hr0
  have HC0 := zK hc0
  clear hr0 hc0
  have H : (if (l0.length : Int) > 4096 then (some (0, 70)) else (rank_sum.l0 k 0 l0 (l0.length : Int) 0)) = some (r1, r2) := h
  clear h
  by_cases c2 : (l0.length : Int) > 4096
  ·rw [if_pos c2] at H
   have c2b0 : decide (4096 < (l0.length : Int)) = true := yC c2
   have c2b1 : decide (4096 < l0.length) = true := yC (by omega)
   clear c2
   simp only [yZ, ya] at H
   obtain ⟨rfl, rfl⟩ := H
   go_enter Try.func76, Try.ntmps76
   go_wp2
   go_ret2
   exact ⟨by first | rfl | (simp; done) | (simp [*]; done), by repeat (first | exact Drawn0.refl _ | apply Drawn0.step)⟩
  ·rw [if_neg c2] at H
   have c2b0 : decide (4096 < (l0.length : Int)) = false := yD c2
   have c2b1 : decide (4096 < l0.length) = false := yD (by omega)
   clear c2
   have H' := zK H
   clear H
   go_enter Try.func76, Try.ntmps76
   go_wp2
   go_loopg [4, 12] k (fun kq v4 v12 w' => ∃ (x4_1 : Int) (x12_1 : Int), v4 = .int .i64 x4_1 ∧ v12 = .int .i64 x12_1 ∧ Aside0 (rank_sum.l0 kq x4_1 l0 (l0.length : Int) x12_1 = some (r1, r2)) ∧ Aside0 (kq ≤ k) ∧ Drawn0 w w')
   case atStart => exact ⟨(0), (0), (by first | rfl | (simp; done) | (simp [*]; done)), (by first | rfl | (simp; done) | (simp [*]; done)), H', ⟨yN _⟩, by repeat (first | exact Drawn0.refl _ | apply Drawn0.step)⟩
   case round =>
    clear H'
    try clear c2
    try clear c2b0
    try clear c2b1
    try clear p2
    obtain ⟨x4_1, x12_1, rfl, rfl, HA, HK1, ⟨m1, rfl⟩⟩ := hrel
    cases gk with
    | zero => exact absurd HA.out (by simp [rank_sum.l0])
    | succ k1 =>
     have H := HA.out
     clear HA
     simp only [rank_sum.l0] at H
     by_cases c3 : x12_1 < (l0.length : Int)
     ·rw [if_pos c3] at H
      have c3b0 : decide (x12_1 < (l0.length : Int)) = true := yC c3
      clear c3
      by_cases c4 : 0 ≤ x12_1
      ·rw [if_pos c4] at H
       have c4b0 : decide (0 ≤ x12_1) = true := yC c4
       clear c4
       by_cases c5 : x12_1 < (l0.length : Int)
       ·rw [if_pos c5] at H
        have c5b0 : decide (x12_1 < (l0.length : Int)) = true := yC c5
        clear c5
        by_cases c6 : (rd l0 x12_1) < 0
        ·rw [if_pos c6] at H
         have c6b0 : decide ((rd l0 x12_1) < 0) = true := yC c6
         clear c6
         simp only [yZ, ya] at H
         obtain ⟨rfl, rfl⟩ := H
         have p126 : 0 ≤ (x12_1 : Int) := yB (by first | (with_reducible assumption) | assumption)
         have q126 : x12_1 < (l0.length : Int) := yB (by first | (with_reducible assumption) | assumption)
         obtain ⟨ad126, e126, hx126_0⟩ := Kd.at_int HR0.out x12_1 p126 q126
         cases e126
         replace p126 := yg p126
         replace q126 := yg q126
         go_wp2
         go_ret2
         exact ⟨by first | rfl | (simp; done) | (simp [*]; done), by repeat (first | exact Drawn0.refl _ | apply Drawn0.step)⟩
        ·rw [if_neg c6] at H
         have c6b0 : decide ((rd l0 x12_1) < 0) = false := yD c6
         clear c6
         by_cases c7 : (rd l0 x12_1) > 1073741824
         ·rw [if_pos c7] at H
          have c7b0 : decide (1073741824 < (rd l0 x12_1)) = true := yC c7
          clear c7
          simp only [yZ, ya] at H
          obtain ⟨rfl, rfl⟩ := H
          have p126 : 0 ≤ (x12_1 : Int) := yB (by first | (with_reducible assumption) | assumption)
          have q126 : x12_1 < (l0.length : Int) := yB (by first | (with_reducible assumption) | assumption)
          obtain ⟨ad126, e126, hx126_0⟩ := Kd.at_int HR0.out x12_1 p126 q126
          cases e126
          replace p126 := yg p126
          replace q126 := yg q126
          go_wp2
          go_ret2
          exact ⟨by first | rfl | (simp; done) | (simp [*]; done), by repeat (first | exact Drawn0.refl _ | apply Drawn0.step)⟩
         ·rw [if_neg c7] at H
          have c7b0 : decide (1073741824 < (rd l0 x12_1)) = false := yD c7
          clear c7
          have H' := zK H
          clear H
          have p126 : 0 ≤ (x12_1 : Int) := yB (by first | (with_reducible assumption) | assumption)
          have q126 : x12_1 < (l0.length : Int) := yB (by first | (with_reducible assumption) | assumption)
          obtain ⟨ad126, e126, hx126_0⟩ := Kd.at_int HR0.out x12_1 p126 q126
          cases e126
          replace p126 := yg p126
          replace q126 := yg q126
          go_wp2
          go_roundg k1
          case measure => have := HK1.out; omega
          case rel => exact ⟨(wrap64 (x4_1 + (rd l0 x12_1))), (wrap64 (x12_1 + 1)), (by first | rfl | (simp; done) | (simp [*]; done)), (by first | rfl | (simp; done) | (simp [*]; done)), H', ⟨by have := HK1.out; omega⟩, by repeat (first | exact Drawn0.refl _ | apply Drawn0.step)⟩
       ·rw [if_neg c5] at H
        exact absurd H (by simp)
      ·rw [if_neg c4] at H
       exact absurd H (by simp)
     ·rw [if_neg c3] at H
      have c3b0 : decide (x12_1 < (l0.length : Int)) = false := yD c3
      clear c3
      by_cases c8 : x4_1 = 0
      ·rw [if_pos c8] at H
       have c8b0 : (x4_1 == 0) = true := beq_iff_eq.mpr c8
       have c8b1 : (x4_1 != 0) = false := bne_eq_false_iff_eq.mpr c8
       clear c8
       simp only [yZ, ya] at H
       obtain ⟨rfl, rfl⟩ := H
       go_wp2
       go_ret2
       exact ⟨by first | rfl | (simp; done) | (simp [*]; done), by repeat (first | exact Drawn0.refl _ | apply Drawn0.step)⟩
      ·rw [if_neg c8] at H
       have c8b0 : (x4_1 == 0) = false := beq_eq_false_iff_ne.mpr c8
       have c8b1 : (x4_1 != 0) = true := bne_iff_ne.mpr c8
       simp only [yZ, ya] at H
       obtain ⟨rfl, rfl⟩ := H
       go_wp2
       go_ret2
       exact ⟨by first | rfl | (simp; done) | (simp [*]; done), by repeat (first | exact Drawn0.refl _ | apply Drawn0.step)⟩

/-! ### rank_Nucleus: function 44 -/
mutual
def rank_Nucleus.j0 : Nat → List Int → Int → Bool → Option (List Int × Int)
  | 0, _, _, _ => none
  | k + 1, x0, x1, x16 => if x16 = true then (some (([] : List Int), 1)) else ((rank_sum.f k x0).bind fun bt127 => (if bt127.2 = 0 then ((rank_Order.f x0).bind fun t129 => (rank_Nucleus.l0 k x0 x1 bt127.1 t129 0 0)) else (some (([] : List Int), bt127.2))))
def rank_Nucleus.l0 : Nat → List Int → Int → Int → List Int → Int → Int → Option (List Int × Int)
  | 0, _, _, _, _, _, _ => none
  | k + 1, x0, x1, x6, x8, x9, x10 => if (wrap64 (x10 * 65536)) < (wrap64 (x1 * x6)) then (if 0 ≤ x9 then (if x9 < (x8.length : Int) then (if 0 ≤ (rd x8 x9) then (if (rd x8 x9) < (x0.length : Int) then (rank_Nucleus.l0 k x0 x1 x6 x8 (wrap64 (x9 + 1)) (wrap64 (x10 + (rd x0 (rd x8 x9))))) else (none)) else (none)) else (none)) else (none)) else (if 0 ≤ x9 then (if x9 ≤ (x8.length : Int) then ((slices_Clone_int_int.f (x8.take (x9 : Int).toNat)).bind fun t138 => (some (t138, 0))) else (none)) else (none))
end
def rank_Nucleus.f (k : Nat) (l0 : List Int) (a1 : Int) : Option (List Int × Int) := if a1 < 1 then (rank_Nucleus.j0 k l0 a1 true) else (rank_Nucleus.j0 k l0 a1 (decide (a1 > 65536)))
theorem rank_Nucleus.mono_l : ∀ k, (∀ y0 y1 y2, LeO (rank_Nucleus.j0 k y0 y1 y2) (rank_Nucleus.j0 (k + 1) y0 y1 y2)) ∧ (∀ y0 y1 y2 y3 y4 y5, LeO (rank_Nucleus.l0 k y0 y1 y2 y3 y4 y5) (rank_Nucleus.l0 (k + 1) y0 y1 y2 y3 y4 y5))
  | 0 => ⟨fun _ _ _ r h => by simp [rank_Nucleus.j0] at h, fun _ _ _ _ _ _ r h => by simp [rank_Nucleus.l0] at h⟩
  | k + 1 => by
    obtain ⟨ih0, ih1⟩ := rank_Nucleus.mono_l k
    refine ⟨?_, ?_⟩ <;> (intros; first | unfold rank_Nucleus.j0 | unfold rank_Nucleus.l0)
    all_goals repeat' first
      | (with_reducible exact ih0 _ _ _)
      | (with_reducible exact ih1 _ _ _ _ _ _)
      | (with_reducible exact rank_sum.mono _ _)
      | (with_reducible exact yR _)
      | (with_reducible exact yO _)
      | (with_reducible refine yQ ?_ ?_)
      | (with_reducible refine yP ?_ (fun _ => ?_))
      | exact ih0 _ _ _
      | exact ih1 _ _ _ _ _ _
      | exact rank_sum.mono _ _
      | exact yO _
      | refine yQ ?_ ?_
      | refine yP ?_ (fun _ => ?_)
theorem rank_Nucleus.mono : ∀ a0 a1 k, LeO (rank_Nucleus.f k a0 a1) (rank_Nucleus.f (k + 1) a0 a1) := by
  intro a0 a1 k
  obtain ⟨ih0, ih1⟩ := rank_Nucleus.mono_l k
  unfold rank_Nucleus.f
  repeat' first
      | (with_reducible exact ih0 _ _ _)
      | (with_reducible exact ih1 _ _ _ _ _ _)
      | (with_reducible exact rank_sum.mono _ _)
      | (with_reducible exact yR _)
      | (with_reducible exact yO _)
      | (with_reducible refine yQ ?_ ?_)
      | (with_reducible refine yP ?_ (fun _ => ?_))
      | exact ih0 _ _ _
      | exact ih1 _ _ _ _ _ _
      | exact rank_sum.mono _ _
      | exact yO _
      | refine yQ ?_ ?_
      | refine yP ?_ (fun _ => ?_)
set_option maxHeartbeats 8000000 in
set_option maxRecDepth 100000 in
theorem rank_Nucleus.calls (k : Nat) (A0 : Option Addr) (c0 : Nat) (l0 : List Int) (a1 : Int) (r1 : List Int) (r2 : Int) (w : World) (hr0 : Kd.C (Kd.int .i64) w A0 l0.length l0) (hc0 : l0.length ≤ c0) (h : rank_Nucleus.f k l0 a1 = some (r1, r2)) :
    Calls Try.prog 44 #[.slice A0 l0.length c0, .int .i64 a1] w fun e w' => ∃ v0_ : Value, e = .returned (.tuple #[v0_, .int .i64 r2]) ∧ Kd.R (Kd.int .i64) 3 w' w.heap.size (fun _ => True) v0_ r1 ∧ Below w.heap.size w w' := by
  have HR0 := zK hr0
  have HC0 := zK hc0
  clear hr0 hc0
  have HB := zK (Below.refl w.heap.size w)
  have H : (if a1 < 1 then (rank_Nucleus.j0 k l0 a1 true) else (rank_Nucleus.j0 k l0 a1 (decide (a1 > 65536)))) = some (r1, r2) := h
  clear h
  have HC3 := zK H
  clear H
  go_enter Try.func44, Try.ntmps44
  go_upto_region 1 with (fail)
  go_cut [16] (fun v16 wc => ∃ (kq : Nat) (x16_2 : Bool), v16 = .bool x16_2 ∧ Aside0 (rank_Nucleus.j0 kq l0 a1 x16_2 = some (r1, r2)) ∧ Aside0 (kq ≤ k) ∧ Aside0 (Below w.heap.size w wc))
  case first =>
   have H := HC3.out
   clear HC3
   by_cases c4 : a1 < 1
   ·rw [if_pos c4] at H
    have c4b0 : decide (a1 < 1) = true := yC c4
    clear c4
    (first | rw [c4b0] | (simp only [i64_w, i32_w]; rw [c4b0]) | skip)
    have H' := zK H
    clear H
    go_wp2
    go_meet
    case rel => exact ⟨_, (true), (by first | rfl | (simp; done) | (simp [*]; done)), H', ⟨by first | omega | exact yN _⟩, ⟨by repeat (first | (with_reducible first | exact HB.out | apply zJ | apply zD | apply zE) | exact HB.out)⟩⟩
   ·rw [if_neg c4] at H
    have c4b0 : decide (a1 < 1) = false := yD c4
    clear c4
    (first | rw [c4b0] | (simp only [i64_w, i32_w]; rw [c4b0]) | skip)
    have H' := zK H
    clear H
    go_wp2
    go_meet
    case rel => exact ⟨_, (decide (a1 > 65536)), (by first | rfl | (simp; done) | (simp [*]; done)), H', ⟨by first | omega | exact yN _⟩, ⟨by repeat (first | (with_reducible first | exact HB.out | apply zJ | apply zD | apply zE) | exact HB.out)⟩⟩
  case rest =>
   clear HC3
   try clear p2
   try clear c4
   try clear c4b0
   obtain ⟨kq, x16_2, rfl, HA, HJ2, HB⟩ := hcut
   cases kq with
   | zero => exact absurd HA.out (by simp [rank_Nucleus.j0])
   | succ kj2 =>
    have H := HA.out
    clear HA
    simp only [rank_Nucleus.j0] at H
    by_cases c5 : x16_2 = true
    ·subst c5
     have H1 : (some (([] : List Int), 1)) = some (r1, r2) := by rw [if_pos rfl] at H; exact H
     clear H
     have H := H1
     clear H1
     simp only [yZ, ya] at H
     obtain ⟨rfl, rfl⟩ := H
     go_wp2
     go_ret2
     exact ⟨_, by first | rfl | (simp [errW_none, errW_some] <;> rfl) | (simp [*, errW_none, errW_some] <;> rfl), by first | exact Kd.R_nil _ _ _ _ _ | exact Kd.N_nil _ _ _ _ _ | exact Kd.V_nil _ _ _ _ _ | exact Kd.Q_nil _ _ _ _ _ | exact Kd.S_nil _ _ _ _ _, by repeat (first | (with_reducible first | exact HB.out | apply zJ | apply zD | apply zE) | exact HB.out)⟩
    ·replace c5 := yh.mpr c5
     subst c5
     have H1 : ((rank_sum.f kj2 l0).bind fun bt127 => (if bt127.2 = 0 then ((rank_Order.f l0).bind fun t129 => (rank_Nucleus.l0 kj2 l0 a1 bt127.1 t129 0 0)) else (some (([] : List Int), bt127.2)))) = some (r1, r2) := by rw [if_neg (show ¬ (false = true) by decide)] at H; exact H
     clear H
     have H := H1
     clear H1
     replace H := yA.mp H
     obtain ⟨⟨t127, t128⟩, A60, H⟩ := H
     replace H : (if t128 = 0 then ((rank_Order.f l0).bind fun t129 => (rank_Nucleus.l0 kj2 l0 a1 t127 t129 0 0)) else (some (([] : List Int), t128))) = some (r1, r2) := H
     have A6 := zK A60
     clear A60
     by_cases c7 : t128 = 0
     ·rw [if_pos c7] at H
      have c7b0 : (t128 == 0) = true := beq_iff_eq.mpr c7
      have c7b1 : (t128 != 0) = false := bne_eq_false_iff_eq.mpr c7
      clear c7
      replace H := yA.mp H
      obtain ⟨t129, A80, H⟩ := H
      replace H : (rank_Nucleus.l0 kj2 l0 a1 t127 t129 0 0) = some (r1, r2) := H
      have A8 := zK A80
      clear A80
      have H' := zK H
      clear H
      go_wp2_with (first | ((with_reducible refine gate_callee (f := 76) rfl ?_); refine goesL_ (some 19) rfl rfl Try.func76 (by kernel_rfl) rfl #[.slice A0 l0.length c0] rfl (by (try simp only [yH, yI, yJ]); first | done | rfl | (simp only [yG, yF]; rfl)) ?_; (with_reducible refine (rank_sum.calls kj2 _ _ l0 t127 t128 _ ?side1 ?side2 A6.out).mono ?_); (case side1 => repeat (first | exact (yc HR0.out HB.out) | (with_reducible refine yS ?_ _) | (with_reducible refine yT ?_ _) | (with_reducible refine yU ?_))); (case side2 => exact HC0.out); rintro e w' ⟨rfl, ⟨nd, rfl⟩⟩; refine ⟨_, rfl, ?_⟩) | ((with_reducible refine gate_callee (f := 74) rfl ?_); refine goesL_ (some 26) rfl rfl Try.func74 (by kernel_rfl) rfl #[.slice A0 l0.length c0] rfl (by (try simp only [yH, yI, yJ]); first | done | rfl | (simp only [yG, yF]; rfl)) ?_; (with_reducible refine (rank_Order.calls _ _ l0 t129 _ ?side1 ?side2 A8.out).mono ?_); (case side1 => repeat (first | exact (yc HR0.out (by repeat (first | (with_reducible first | exact HB.out | apply zJ | apply zD | apply zE) | exact HB.out))) | (with_reducible refine yS ?_ _) | (with_reducible refine yT ?_ _) | (with_reducible refine yU ?_))); (case side2 => exact HC0.out); rintro e w9 ⟨v130, rfl, ho0, hb⟩; refine ⟨_, rfl, ?_⟩; have n0_ := zK (Kd.R_lower ho0 (yK (by repeat (first | (with_reducible first | exact HB.out | apply zJ | apply zD | apply zE) | exact HB.out)))); have n1_ := zK (yL (by repeat (first | (with_reducible first | exact HB.out | apply zJ | apply zD | apply zE) | exact HB.out)) hb); clear HB; have HO131 := n0_; have HB := n1_; clear n0_ n1_; (try clear hb); (try clear hb2); (try clear hk); (try clear hi); (try clear ho0)))
      go_loopg [9, 10] kj2 (fun kq v9 v10 w' => ∃ (x9_2 : Int) (x10_2 : Int), v9 = .int .i64 x9_2 ∧ v10 = .int .i64 x10_2 ∧ Aside0 (rank_Nucleus.l0 kq l0 a1 t127 t129 x9_2 x10_2 = some (r1, r2)) ∧ Aside0 (kq ≤ kj2) ∧ Aside0 (Kd.R (Kd.int .i64) 3 w' w.heap.size (fun _ => True) v130 t129) ∧ Aside0 (Below w.heap.size w w'))
      case atStart => exact ⟨(0), (0), (by first | rfl | (simp; done) | (simp [*]; done)), (by first | rfl | (simp; done) | (simp [*]; done)), H', ⟨yN _⟩, ⟨by (with_reducible repeat (first | apply zL | apply zM | apply zN)); exact HO131.out⟩, ⟨by repeat (first | (with_reducible first | exact HB.out | apply zJ | apply zD | apply zE) | exact HB.out)⟩⟩
      case round =>
       clear H'
       try clear p2
       try clear c4
       try clear c4b0
       try clear c5
       try clear c7
       try clear c7b0
       try clear c7b1
       try clear p2
       obtain ⟨x9_2, x10_2, rfl, rfl, HA, HK2, HO_8, HB⟩ := hrel
       cases gk with
       | zero => exact absurd HA.out (by simp [rank_Nucleus.l0])
       | succ k2 =>
        have H := HA.out
        clear HA
        simp only [rank_Nucleus.l0] at H
        by_cases c10 : (wrap64 (x10_2 * 65536)) < (wrap64 (a1 * t127))
        ·rw [if_pos c10] at H
         have c10b0 : decide ((wrap64 (x10_2 * 65536)) < (wrap64 (a1 * t127))) = true := yC c10
         clear c10
         by_cases c11 : 0 ≤ x9_2
         ·rw [if_pos c11] at H
          have c11b0 : decide (0 ≤ x9_2) = true := yC c11
          clear c11
          by_cases c12 : x9_2 < (t129.length : Int)
          ·rw [if_pos c12] at H
           have c12b0 : decide (x9_2 < (t129.length : Int)) = true := yC c12
           clear c12
           by_cases c13 : 0 ≤ (rd t129 x9_2)
           ·rw [if_pos c13] at H
            have c13b0 : decide (0 ≤ (rd t129 x9_2)) = true := yC c13
            clear c13
            by_cases c14 : (rd t129 x9_2) < (l0.length : Int)
            ·rw [if_pos c14] at H
             have c14b0 : decide ((rd t129 x9_2) < (l0.length : Int)) = true := yC c14
             clear c14
             have H' := zK H
             clear H
             obtain ⟨Ao15, co15, eo15⟩ := Kd.R_slice HO_8.out
             subst eo15
             have p132 : 0 ≤ (x9_2 : Int) := yB (by first | (with_reducible assumption) | assumption)
             have q132 : x9_2 < (t129.length : Int) := yB (by first | (with_reducible assumption) | assumption)
             obtain ⟨ad132, e132, hx132_0⟩ := Kd.at_int (yM HO_8.out).2.2 x9_2 p132 q132
             cases e132
             replace p132 := yg p132
             replace q132 := yg q132
             have p133 : 0 ≤ ((rd t129 x9_2) : Int) := yB (by first | (with_reducible assumption) | assumption)
             have q133 : (rd t129 x9_2) < (l0.length : Int) := yB (by first | (with_reducible assumption) | assumption)
             obtain ⟨ad133, e133, hx133_0⟩ := Kd.at_int HR0.out (rd t129 x9_2) p133 q133
             cases e133
             replace hx133_0 := (HB.out.cell (World.block_lt_of_cell? w _ hx133_0)).trans hx133_0
             replace p133 := yg p133
             replace q133 := yg q133
             go_wp2
             go_roundg k2
             case measure => have := HJ2.out; have := HK2.out; omega
             case rel => exact ⟨(wrap64 (x9_2 + 1)), (wrap64 (x10_2 + (rd l0 (rd t129 x9_2)))), (by first | rfl | (simp; done) | (simp [*]; done)), (by first | rfl | (simp; done) | (simp [*]; done)), H', ⟨by have := HJ2.out; have := HK2.out; omega⟩, ⟨by (with_reducible repeat (first | apply zL | apply zM | apply zN)); exact HO_8.out⟩, ⟨by repeat (first | (with_reducible first | exact HB.out | apply zJ | apply zD | apply zE) | exact HB.out)⟩⟩
            ·rw [if_neg c14] at H
             exact absurd H (by simp)
           ·rw [if_neg c13] at H
            exact absurd H (by simp)
          ·rw [if_neg c12] at H
           exact absurd H (by simp)
         ·rw [if_neg c11] at H
          exact absurd H (by simp)
        ·rw [if_neg c10] at H
         have c10b0 : decide ((wrap64 (x10_2 * 65536)) < (wrap64 (a1 * t127))) = false := yD c10
         clear c10
         by_cases c16 : 0 ≤ x9_2
         ·rw [if_pos c16] at H
          have c16b0 := yg c16
          have c16b1 : decide (0 ≤ x9_2) = true := yC c16
          clear c16
          by_cases c17 : x9_2 ≤ (t129.length : Int)
          ·rw [if_pos c17] at H
           have c17b0 := yg c17
           have c17b1 : decide (x9_2 ≤ (t129.length : Int)) = true := yC c17
           clear c17
           obtain ⟨y134, hy134⟩ : ∃ y_ : List Int, y_ = (t129.take (x9_2 : Int).toNat) := ⟨_, rfl⟩
           replace H : ((slices_Clone_int_int.f y134).bind fun t138 => (some (t138, 0))) = some (r1, r2) := by first | (rw [hy134]; with_reducible exact H) | (have H2_ := (yV _ _).symm.trans H; rw [hy134]; with_reducible exact H2_) | (have H2_ := (yV _ _).symm.trans H; with_reducible exact H2_) | with_reducible exact H | (rw [hy134]; exact H) | exact H
           have Ny134 := zK hy134
           clear hy134
           replace H := yA.mp H
           obtain ⟨t138, A180, H⟩ := H
           replace H : (some (t138, 0)) = some (r1, r2) := H
           have A18 := zK A180
           clear A180
           simp only [yZ, ya] at H
           obtain ⟨rfl, rfl⟩ := H
           obtain ⟨Ao20, co20, eo20⟩ := Kd.R_slice HO_8.out
           subst eo20
           have q19 : (x9_2 : Int) ≤ ((t129.length : Int) : Int) := yB (by first | (with_reducible assumption) | assumption)
           obtain ⟨i019, hi019, _, hsz19, _⟩ := yj info3
           have hroom19 : t129.length ≤ co20 := (yM HO_8.out).2.1
           have hC19 : Kd.C (Kd.int .i64) _ Ao20 t129.length t129 := (yM HO_8.out).2.2
           have hcut19 := cut_to (P := Try.prog) 51 3 .i64 Try.underlying51 hi019 Ao20 t129.length co20 x9_2 (yB (by first | (with_reducible assumption) | assumption)) q19 hroom19
           have hr19 := Kd.C_take (m := (x9_2 : Int).toNat) hC19 (by omega)
           have hy19 : y134.length = (x9_2 : Int).toNat := (by rw [Ny134.out, yF]; omega)
           rw [← Ny134.out] at hr19
           rw [← hy19] at hcut19
           have HR137 := zK hr19
           have HC137 := zK (show y134.length ≤ co20 from by omega)
           clear hr19 hC19 hroom19 hi019 hsz19
           have KY19 := zK hy19
           clear hy19
           have KL19 := zK (show (x9_2 : Int).toNat ≤ t129.length from by omega)
           replace q19 := yg q19
           go_wp2_with (first | ((with_reducible refine gate_callee (f := 75) rfl ?_); refine goesL_ (some 47) rfl rfl Try.func75 (by kernel_rfl) rfl #[.slice Ao20 y134.length co20] rfl (by (try simp only [yH, yI, yJ]); first | done | rfl | (simp only [yG, yF]; rfl)) ?_; (with_reducible refine (slices_Clone_int_int.calls _ _ y134 t138 _ ?side1 ?side2 A18.out).mono ?_); (case side1 => repeat (first | exact (by repeat (first | (with_reducible exact HR137.out) | (with_reducible refine yS ?_ _) | (with_reducible refine yT ?_ _) | (with_reducible refine yU ?_) | exact HR137.out)) | (with_reducible refine yS ?_ _) | (with_reducible refine yT ?_ _) | (with_reducible refine yU ?_))); (case side2 => exact HC137.out); rintro e w21 ⟨v139, rfl, ho0, hb⟩; refine ⟨_, rfl, ?_⟩; have n0_ := zK (Kd.R_elder' (by (with_reducible repeat (first | apply zL | apply zM | apply zN)); exact HO_8.out) (Kd.R_base ho0) hb); have n1_ := zK (Kd.R_lower (Kd.R_new' ho0 (Kd.R_lt (by (with_reducible repeat (first | apply zL | apply zM | apply zN)); exact HO_8.out))) (yK (by repeat (first | (with_reducible first | exact HB.out | apply zJ | apply zD | apply zE) | exact HB.out)))); have n2_ := zK (yc (by repeat (first | (with_reducible exact HR137.out) | (with_reducible refine yS ?_ _) | (with_reducible refine yT ?_ _) | (with_reducible refine yU ?_) | exact HR137.out)) hb); have n3_ := zK (yL (by repeat (first | (with_reducible first | exact HB.out | apply zJ | apply zD | apply zE) | exact HB.out)) hb); clear HO_8 HR137 HB; have HO_8 := n0_; have HO140 := n1_; have HR137 := n2_; have HB := n3_; clear n0_ n1_ n2_ n3_; (try clear hb); (try clear hb2); (try clear hk); (try clear hi); (try clear ho0)))
           go_ret2
           exact ⟨_, by first | rfl | (simp [errW_none, errW_some] <;> rfl) | (simp [*, errW_none, errW_some] <;> rfl), by (with_reducible repeat (first | apply zL | apply zM | apply zN)); exact yd HO140.out (fun _ hk => trivial), by repeat (first | (with_reducible first | exact HB.out | apply zJ | apply zD | apply zE) | exact HB.out)⟩
          ·rw [if_neg c17] at H
           exact absurd H (by simp)
         ·rw [if_neg c16] at H
          exact absurd H (by simp)
     ·rw [if_neg c7] at H
      have c7b0 : (t128 == 0) = false := beq_eq_false_iff_ne.mpr c7
      have c7b1 : (t128 != 0) = true := bne_iff_ne.mpr c7
      simp only [yZ, ya] at H
      obtain ⟨rfl, rfl⟩ := H
      go_wp2_with (first | ((with_reducible refine gate_callee (f := 76) rfl ?_); refine goesL_ (some 19) rfl rfl Try.func76 (by kernel_rfl) rfl #[.slice A0 l0.length c0] rfl (by (try simp only [yH, yI, yJ]); first | done | rfl | (simp only [yG, yF]; rfl)) ?_; (with_reducible refine (rank_sum.calls kj2 _ _ l0 t127 t128 _ ?side1 ?side2 A6.out).mono ?_); (case side1 => repeat (first | exact (yc HR0.out HB.out) | (with_reducible refine yS ?_ _) | (with_reducible refine yT ?_ _) | (with_reducible refine yU ?_))); (case side2 => exact HC0.out); rintro e w' ⟨rfl, ⟨nd, rfl⟩⟩; refine ⟨_, rfl, ?_⟩))
      go_ret2
      exact ⟨_, by first | rfl | (simp [errW_none, errW_some] <;> rfl) | (simp [*, errW_none, errW_some] <;> rfl), by first | exact Kd.R_nil _ _ _ _ _ | exact Kd.N_nil _ _ _ _ _ | exact Kd.V_nil _ _ _ _ _ | exact Kd.Q_nil _ _ _ _ _ | exact Kd.S_nil _ _ _ _ _, by repeat (first | (with_reducible first | exact HB.out | apply zJ | apply zD | apply zE) | exact HB.out)⟩

end Go.Proofs.Ythmckhfjaleomaa.T
