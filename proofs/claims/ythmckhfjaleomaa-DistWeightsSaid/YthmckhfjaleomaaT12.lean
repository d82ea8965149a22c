-- Printed by this session's own driver (wip/tools/xprint.py) over the kit's printer; given functions are this session's own.
import Derived.Test.YthmckhfjaleomaaT0
import Derived.Test.YthmckhfjaleomaaT11
namespace Go.Proofs.Ythmckhfjaleomaa.T
open Go.RowKit Go.Proofs.YthmckhfjaleomaaW.PrintWords Go.Proofs.YthmckhfjaleomaaW.PrintLast Go.Proofs.YthmckhfjaleomaaW.PrintMore
attribute [local go_sem] max2_int min2_int max_two min_two max_three min_three max_four min_four   -- for this text's walks alone
set_option linter.unusedVariables false
set_option linter.unusedSimpArgs false

/-! ### r07_Nucleus: function 52 -/
mutual
def r07_Nucleus.j0 : Nat → List Int → Int → Bool → Option (List Int × Int)
  | 0, _, _, _ => none
  | k + 1, x0, x1, x16 => if x16 = true then (some ((([] : List Int)), 1)) else ((r07_sum.f k x0).bind fun bt278 => (if bt278.2 = 0 then ((r07_Order.f k x0).bind fun t283 => (r07_Nucleus.l0 k x0 x1 bt278.1 t283 0 0)) else (some ((([] : List Int)), bt278.2))))
def r07_Nucleus.l0 : Nat → List Int → Int → Int → List Int → Int → Int → Option (List Int × Int)
  | 0, _, _, _, _, _, _ => none
  | k + 1, x0, x1, x6, x8, x9, x10 => if (wrap64 (x10 * 65536)) < (wrap64 (x1 * x6)) then (if 0 ≤ x9 then (if x9 < (x8.length : Int) then (if 0 ≤ (rd x8 x9) then (if (rd x8 x9) < (x0.length : Int) then (r07_Nucleus.l0 k x0 x1 x6 x8 (wrap64 (x9 + 1)) (wrap64 (x10 + (rd x0 (rd x8 x9))))) else (none)) else (none)) else (none)) else (none)) else (if 0 ≤ x9 then (if x9 ≤ (x8.length : Int) then (some ((x8.take (x9 : Int).toNat), 0)) else (none)) else (none))
end
def r07_Nucleus.f (k : Nat) (l0 : List Int) (a1 : Int) : Option (List Int × Int) := if a1 < 1 then (r07_Nucleus.j0 k l0 a1 true) else (r07_Nucleus.j0 k l0 a1 (decide (a1 > 65536)))
theorem r07_Nucleus.mono_l : ∀ k, (∀ y0 y1 y2, LeO (r07_Nucleus.j0 k y0 y1 y2) (r07_Nucleus.j0 (k + 1) y0 y1 y2)) ∧ (∀ y0 y1 y2 y3 y4 y5, LeO (r07_Nucleus.l0 k y0 y1 y2 y3 y4 y5) (r07_Nucleus.l0 (k + 1) y0 y1 y2 y3 y4 y5))
  | 0 => ⟨fun _ _ _ r h => by simp [r07_Nucleus.j0] at h, fun _ _ _ _ _ _ r h => by simp [r07_Nucleus.l0] at h⟩
  | k + 1 => by
    obtain ⟨ih0, ih1⟩ := r07_Nucleus.mono_l k
    refine ⟨?_, ?_⟩ <;> (intros; first | unfold r07_Nucleus.j0 | unfold r07_Nucleus.l0)
    all_goals repeat' first
      | (with_reducible exact ih0 _ _ _)
      | (with_reducible exact ih1 _ _ _ _ _ _)
      | (with_reducible exact r07_Order.mono _ _)
      | (with_reducible exact r07_sum.mono _ _)
      | (with_reducible exact yR _)
      | (with_reducible exact yO _)
      | (with_reducible refine yQ ?_ ?_)
      | (with_reducible refine yP ?_ (fun _ => ?_))
      | exact ih0 _ _ _
      | exact ih1 _ _ _ _ _ _
      | exact r07_Order.mono _ _
      | exact r07_sum.mono _ _
      | exact yO _
      | refine yQ ?_ ?_
      | refine yP ?_ (fun _ => ?_)
theorem r07_Nucleus.mono : ∀ a0 a1 k, LeO (r07_Nucleus.f k a0 a1) (r07_Nucleus.f (k + 1) a0 a1) := by
  intro a0 a1 k
  obtain ⟨ih0, ih1⟩ := r07_Nucleus.mono_l k
  unfold r07_Nucleus.f
  repeat' first
      | (with_reducible exact ih0 _ _ _)
      | (with_reducible exact ih1 _ _ _ _ _ _)
      | (with_reducible exact r07_Order.mono _ _)
      | (with_reducible exact r07_sum.mono _ _)
      | (with_reducible exact yR _)
      | (with_reducible exact yO _)
      | (with_reducible refine yQ ?_ ?_)
      | (with_reducible refine yP ?_ (fun _ => ?_))
      | exact ih0 _ _ _
      | exact ih1 _ _ _ _ _ _
      | exact r07_Order.mono _ _
      | exact r07_sum.mono _ _
      | exact yO _
      | refine yQ ?_ ?_
      | refine yP ?_ (fun _ => ?_)
set_option maxHeartbeats 8000000 in
set_option maxRecDepth 100000 in
theorem r07_Nucleus.calls (k : Nat) (A0 : Option Addr) (c0 : Nat) (l0 : List Int) (a1 : Int) (r1 : List Int) (r2 : Int) (w : World) (hr0 : Kd.C (Kd.int .i64) w A0 l0.length l0) (hc0 : l0.length ≤ c0) (h : r07_Nucleus.f k l0 a1 = some (r1, r2)) :
    Calls Try.prog 52 #[.slice A0 l0.length c0, .int .i64 a1] w fun e w' => ∃ v0_ : Value, e = .returned (.tuple #[v0_, .int .i64 r2]) ∧ Kd.R (Kd.int .i64) 3 w' w.heap.size (fun _ => True) v0_ r1 ∧ Below w.heap.size w w' := by
  have HR0 := zK hr0
  have HC0 := zK hc0
  clear hr0 hc0
  have HB := zK (Below.refl w.heap.size w)
  have H : (if a1 < 1 then (r07_Nucleus.j0 k l0 a1 true) else (r07_Nucleus.j0 k l0 a1 (decide (a1 > 65536)))) = some (r1, r2) := h
  clear h
  have HC3 := zK H
  clear H
  go_enter Try.func52, Try.ntmps52
  go_upto_region 1 with (fail)
  go_cut [16] (fun v16 wc => ∃ (kq : Nat) (x16_2 : Bool), v16 = .bool x16_2 ∧ Aside0 (r07_Nucleus.j0 kq l0 a1 x16_2 = some (r1, r2)) ∧ Aside0 (kq ≤ k) ∧ Aside0 (Below w.heap.size w wc))
  case first =>
   have H := HC3.out
   clear HC3
   by_cases c4 : a1 < 1
   ·rw [if_pos c4] at H
    have c4b0 : decide (a1 < 1) = true := yC c4
    clear c4
    (first | rw [c4b0] | (simp only [i64_w, i32_w]; rw [c4b0]) | skip)
    have H' := zK H
    clear H
    go_wp2
    go_meet
    case rel => exact ⟨_, (true), (by first | rfl | (simp; done) | (simp [*]; done)), H', ⟨by first | omega | exact yN _⟩, ⟨by repeat (first | (with_reducible first | exact HB.out | apply zJ | apply zD | apply zE) | exact HB.out)⟩⟩
   ·rw [if_neg c4] at H
    have c4b0 : decide (a1 < 1) = false := yD c4
    clear c4
    (first | rw [c4b0] | (simp only [i64_w, i32_w]; rw [c4b0]) | skip)
    have H' := zK H
    clear H
    go_wp2
    go_meet
    case rel => exact ⟨_, (decide (a1 > 65536)), (by first | rfl | (simp; done) | (simp [*]; done)), H', ⟨by first | omega | exact yN _⟩, ⟨by repeat (first | (with_reducible first | exact HB.out | apply zJ | apply zD | apply zE) | exact HB.out)⟩⟩
  case rest =>
   clear HC3
   try clear p2
   try clear c4
   try clear c4b0
   obtain ⟨kq, x16_2, rfl, HA, HJ2, HB⟩ := hcut
   cases kq with
   | zero => exact absurd HA.out (by simp [r07_Nucleus.j0])
   | succ kj2 =>
    have H := HA.out
    clear HA
    simp only [r07_Nucleus.j0] at H
    by_cases c5 : x16_2 = true
    ·subst c5
     have H1 : (some ((([] : List Int)), 1)) = some (r1, r2) := by rw [if_pos rfl] at H; exact H
     clear H
     have H := H1
     clear H1
     obtain ⟨y275, hy275⟩ : ∃ y_ : List Int, y_ = (([] : List Int)) := ⟨_, rfl⟩
     replace H : (some (y275, 1)) = some (r1, r2) := by first | (rw [hy275]; with_reducible exact H) | (have H2_ := (yV _ _).symm.trans H; rw [hy275]; with_reducible exact H2_) | (have H2_ := (yV _ _).symm.trans H; with_reducible exact H2_) | with_reducible exact H | (rw [hy275]; exact H) | exact H
     have Ny275 := zK hy275
     clear hy275
     simp only [yZ, ya] at H
     obtain ⟨rfl, rfl⟩ := H
     go_wp2_with (first | ((with_reducible refine gate_dst (N := 17) rfl ?_); refine Kd.R_lit (Kd.int .i64) _ 3 ?hg (N := 17) ?hd (xs := ([] : List Int)) (inner := []) (ok := fun _ => True) (okp := fun _ => True) ?hr ?hp (fun _ hk => hk) trivial (Below.refl _ _) (yN _) (by simp) ?_; (case hd => rfl); (case hg => rfl); (case hr => first | (go_simp; done) | (go_simp; rfl)); (case hp => exact (Reps.none _ _)); intro v276 w6 ho7 hb hg_ hnew_; clear hg_ hnew_; (first | rw [← Ny275.out] at ho7 | (simp only [Int.reduceToNat] at ho7; rw [← Ny275.out] at ho7)); have n0_ := zK (Kd.R_lower ho7 (yK (by repeat (first | (with_reducible first | exact HB.out | apply zJ | apply zD | apply zE) | exact HB.out)))); have n1_ := zK (yL (by repeat (first | (with_reducible first | exact HB.out | apply zJ | apply zD | apply zE) | exact HB.out)) hb); clear HB; have HO277 := n0_; have HB := n1_; clear n0_ n1_ hb ho7))
     go_ret2
     exact ⟨_, by first | rfl | (simp [errW_none, errW_some] <;> rfl) | (simp [*, errW_none, errW_some] <;> rfl), by (with_reducible repeat (first | apply zL | apply zM | apply zN)); exact HO277.out, by repeat (first | (with_reducible first | exact HB.out | apply zJ | apply zD | apply zE) | exact HB.out)⟩
    ·replace c5 := yh.mpr c5
     subst c5
     have H1 : ((r07_sum.f kj2 l0).bind fun bt278 => (if bt278.2 = 0 then ((r07_Order.f kj2 l0).bind fun t283 => (r07_Nucleus.l0 kj2 l0 a1 bt278.1 t283 0 0)) else (some ((([] : List Int)), bt278.2)))) = some (r1, r2) := by rw [if_neg (show ¬ (false = true) by decide)] at H; exact H
     clear H
     have H := H1
     clear H1
     replace H := yA.mp H
     obtain ⟨⟨t278, t279⟩, A80, H⟩ := H
     replace H : (if t279 = 0 then ((r07_Order.f kj2 l0).bind fun t283 => (r07_Nucleus.l0 kj2 l0 a1 t278 t283 0 0)) else (some ((([] : List Int)), t279))) = some (r1, r2) := H
     have A8 := zK A80
     clear A80
     by_cases c9 : t279 = 0
     ·rw [if_pos c9] at H
      have c9b0 : (t279 == 0) = true := beq_iff_eq.mpr c9
      have c9b1 : (t279 != 0) = false := bne_eq_false_iff_eq.mpr c9
      clear c9
      replace H := yA.mp H
      obtain ⟨t283, A100, H⟩ := H
      replace H : (r07_Nucleus.l0 kj2 l0 a1 t278 t283 0 0) = some (r1, r2) := H
      have A10 := zK A100
      clear A100
      have H' := zK H
      clear H
      go_wp2_with (first | ((with_reducible refine gate_callee (f := 78) rfl ?_); refine goesL_ (some 20) rfl rfl Try.func78 (by kernel_rfl) rfl #[.slice A0 l0.length c0] rfl (by (try simp only [yH, yI, yJ]); first | done | rfl | (simp only [yG, yF]; rfl)) ?_; (with_reducible refine (r07_sum.calls kj2 _ _ l0 t278 t279 _ ?side1 ?side2 A8.out).mono ?_); (case side1 => repeat (first | exact (yc HR0.out HB.out) | (with_reducible refine yS ?_ _) | (with_reducible refine yT ?_ _) | (with_reducible refine yU ?_))); (case side2 => exact HC0.out); rintro e w' ⟨rfl, ⟨nd, rfl⟩⟩; refine ⟨_, rfl, ?_⟩) | ((with_reducible refine gate_callee (f := 77) rfl ?_); refine goesL_ (some 28) rfl rfl Try.func77 (by kernel_rfl) rfl #[.slice A0 l0.length c0] rfl (by (try simp only [yH, yI, yJ]); first | done | rfl | (simp only [yG, yF]; rfl)) ?_; (with_reducible refine (r07_Order.calls kj2 _ _ l0 t283 _ ?side1 ?side2 A10.out).mono ?_); (case side1 => repeat (first | exact (yc HR0.out (by repeat (first | (with_reducible first | exact HB.out | apply zJ | apply zD | apply zE) | exact HB.out))) | (with_reducible refine yS ?_ _) | (with_reducible refine yT ?_ _) | (with_reducible refine yU ?_))); (case side2 => exact HC0.out); rintro e w11 ⟨v284, rfl, ho0, hb⟩; refine ⟨_, rfl, ?_⟩; have n0_ := zK (Kd.R_lower ho0 (yK (by repeat (first | (with_reducible first | exact HB.out | apply zJ | apply zD | apply zE) | exact HB.out)))); have n1_ := zK (yL (by repeat (first | (with_reducible first | exact HB.out | apply zJ | apply zD | apply zE) | exact HB.out)) hb); clear HB; have HO285 := n0_; have HB := n1_; clear n0_ n1_; (try clear hb); (try clear hb2); (try clear hk); (try clear hi); (try clear ho0)))
      go_loopg [9, 10] kj2 (fun kq v9 v10 w' => ∃ (x9_2 : Int) (x10_2 : Int), v9 = .int .i64 x9_2 ∧ v10 = .int .i64 x10_2 ∧ Aside0 (r07_Nucleus.l0 kq l0 a1 t278 t283 x9_2 x10_2 = some (r1, r2)) ∧ Aside0 (kq ≤ kj2) ∧ Aside0 (Kd.R (Kd.int .i64) 3 w' w.heap.size (fun _ => True) v284 t283) ∧ Aside0 (Below w.heap.size w w'))
      case atStart => exact ⟨(0), (0), (by first | rfl | (simp; done) | (simp [*]; done)), (by first | rfl | (simp; done) | (simp [*]; done)), H', ⟨yN _⟩, ⟨by (with_reducible repeat (first | apply zL | apply zM | apply zN)); exact HO285.out⟩, ⟨by repeat (first | (with_reducible first | exact HB.out | apply zJ | apply zD | apply zE) | exact HB.out)⟩⟩
      case round =>
       clear H'
       try clear p2
       try clear c4
       try clear c4b0
       try clear c5
       try clear c7
       try clear c9
       try clear c9b0
       try clear c9b1
       try clear p2
       obtain ⟨x9_2, x10_2, rfl, rfl, HA, HK2, HO_8, HB⟩ := hrel
       cases gk with
       | zero => exact absurd HA.out (by simp [r07_Nucleus.l0])
       | succ k2 =>
        have H := HA.out
        clear HA
        simp only [r07_Nucleus.l0] at H
        by_cases c12 : (wrap64 (x10_2 * 65536)) < (wrap64 (a1 * t278))
        ·rw [if_pos c12] at H
         have c12b0 : decide ((wrap64 (x10_2 * 65536)) < (wrap64 (a1 * t278))) = true := yC c12
         clear c12
         by_cases c13 : 0 ≤ x9_2
         ·rw [if_pos c13] at H
          have c13b0 : decide (0 ≤ x9_2) = true := yC c13
          clear c13
          by_cases c14 : x9_2 < (t283.length : Int)
          ·rw [if_pos c14] at H
           have c14b0 : decide (x9_2 < (t283.length : Int)) = true := yC c14
           clear c14
           by_cases c15 : 0 ≤ (rd t283 x9_2)
           ·rw [if_pos c15] at H
            have c15b0 : decide (0 ≤ (rd t283 x9_2)) = true := yC c15
            clear c15
            by_cases c16 : (rd t283 x9_2) < (l0.length : Int)
            ·rw [if_pos c16] at H
             have c16b0 : decide ((rd t283 x9_2) < (l0.length : Int)) = true := yC c16
             clear c16
             have H' := zK H
             clear H
             obtain ⟨Ao17, co17, eo17⟩ := Kd.R_slice HO_8.out
             subst eo17
             have p286 : 0 ≤ (x9_2 : Int) := yB (by first | (with_reducible assumption) | assumption)
             have q286 : x9_2 < (t283.length : Int) := yB (by first | (with_reducible assumption) | assumption)
             obtain ⟨ad286, e286, hx286_0⟩ := Kd.at_int (yM HO_8.out).2.2 x9_2 p286 q286
             cases e286
             replace p286 := yg p286
             replace q286 := yg q286
             have p287 : 0 ≤ ((rd t283 x9_2) : Int) := yB (by first | (with_reducible assumption) | assumption)
             have q287 : (rd t283 x9_2) < (l0.length : Int) := yB (by first | (with_reducible assumption) | assumption)
             obtain ⟨ad287, e287, hx287_0⟩ := Kd.at_int HR0.out (rd t283 x9_2) p287 q287
             cases e287
             replace hx287_0 := (HB.out.cell (World.block_lt_of_cell? w _ hx287_0)).trans hx287_0
             replace p287 := yg p287
             replace q287 := yg q287
             go_wp2
             go_roundg k2
             case measure => have := HJ2.out; have := HK2.out; omega
             case rel => exact ⟨(wrap64 (x9_2 + 1)), (wrap64 (x10_2 + (rd l0 (rd t283 x9_2)))), (by first | rfl | (simp; done) | (simp [*]; done)), (by first | rfl | (simp; done) | (simp [*]; done)), H', ⟨by have := HJ2.out; have := HK2.out; omega⟩, ⟨by (with_reducible repeat (first | apply zL | apply zM | apply zN)); exact HO_8.out⟩, ⟨by repeat (first | (with_reducible first | exact HB.out | apply zJ | apply zD | apply zE) | exact HB.out)⟩⟩
            ·rw [if_neg c16] at H
             exact absurd H (by simp)
           ·rw [if_neg c15] at H
            exact absurd H (by simp)
          ·rw [if_neg c14] at H
           exact absurd H (by simp)
         ·rw [if_neg c13] at H
          exact absurd H (by simp)
        ·rw [if_neg c12] at H
         have c12b0 : decide ((wrap64 (x10_2 * 65536)) < (wrap64 (a1 * t278))) = false := yD c12
         clear c12
         by_cases c18 : 0 ≤ x9_2
         ·rw [if_pos c18] at H
          have c18b0 := yg c18
          have c18b1 : decide (0 ≤ x9_2) = true := yC c18
          clear c18
          by_cases c19 : x9_2 ≤ (t283.length : Int)
          ·rw [if_pos c19] at H
           have c19b0 := yg c19
           have c19b1 : decide (x9_2 ≤ (t283.length : Int)) = true := yC c19
           clear c19
           obtain ⟨y288, hy288⟩ : ∃ y_ : List Int, y_ = (t283.take (x9_2 : Int).toNat) := ⟨_, rfl⟩
           replace H : (some (y288, 0)) = some (r1, r2) := by first | (rw [hy288]; with_reducible exact H) | (have H2_ := (yV _ _).symm.trans H; rw [hy288]; with_reducible exact H2_) | (have H2_ := (yV _ _).symm.trans H; with_reducible exact H2_) | with_reducible exact H | (rw [hy288]; exact H) | exact H
           have Ny288 := zK hy288
           clear hy288
           simp only [yZ, ya] at H
           obtain ⟨rfl, rfl⟩ := H
           obtain ⟨Ao20, co20, eo20⟩ := Kd.R_slice HO_8.out
           subst eo20
           have q21 : (x9_2 : Int) ≤ ((t283.length : Int) : Int) := yB (by first | (with_reducible assumption) | assumption)
           obtain ⟨i021, hi021, _, hsz21, _⟩ := yj info3
           have hcut21 := cut_to (P := Try.prog) 51 3 .i64 Try.underlying51 hi021 Ao20 t283.length co20 x9_2 (yB (by first | (with_reducible assumption) | assumption)) q21 (yM HO_8.out).2.1
           have hr21 := Kd.R_take (m := (x9_2 : Int).toNat) HO_8.out (by omega)
           have hy21 : y288.length = (x9_2 : Int).toNat := (by rw [Ny288.out, yF]; omega)
           rw [← Ny288.out] at hr21
           rw [← hy21] at hr21 hcut21
           clear hy21 hi021 hsz21 HO_8
           have HO290 := zK hr21
           clear hr21
           replace q21 := yg q21
           go_wp2
           go_ret2
           exact ⟨_, by first | rfl | (simp [errW_none, errW_some] <;> rfl) | (simp [*, errW_none, errW_some] <;> rfl), by (with_reducible repeat (first | apply zL | apply zM | apply zN)); exact HO290.out, by repeat (first | (with_reducible first | exact HB.out | apply zJ | apply zD | apply zE) | exact HB.out)⟩
          ·rw [if_neg c19] at H
           exact absurd H (by simp)
         ·rw [if_neg c18] at H
          exact absurd H (by simp)
     ·rw [if_neg c9] at H
      have c9b0 : (t279 == 0) = false := beq_eq_false_iff_ne.mpr c9
      have c9b1 : (t279 != 0) = true := bne_iff_ne.mpr c9
      obtain ⟨y280, hy280⟩ : ∃ y_ : List Int, y_ = (([] : List Int)) := ⟨_, rfl⟩
      replace H : (some (y280, t279)) = some (r1, r2) := by first | (rw [hy280]; with_reducible exact H) | (have H2_ := (yV _ _).symm.trans H; rw [hy280]; with_reducible exact H2_) | (have H2_ := (yV _ _).symm.trans H; with_reducible exact H2_) | with_reducible exact H | (rw [hy280]; exact H) | exact H
      have Ny280 := zK hy280
      clear hy280
      simp only [yZ, ya] at H
      obtain ⟨rfl, rfl⟩ := H
      go_wp2_with (first | ((with_reducible refine gate_callee (f := 78) rfl ?_); refine goesL_ (some 20) rfl rfl Try.func78 (by kernel_rfl) rfl #[.slice A0 l0.length c0] rfl (by (try simp only [yH, yI, yJ]); first | done | rfl | (simp only [yG, yF]; rfl)) ?_; (with_reducible refine (r07_sum.calls kj2 _ _ l0 t278 t279 _ ?side1 ?side2 A8.out).mono ?_); (case side1 => repeat (first | exact (yc HR0.out HB.out) | (with_reducible refine yS ?_ _) | (with_reducible refine yT ?_ _) | (with_reducible refine yU ?_))); (case side2 => exact HC0.out); rintro e w' ⟨rfl, ⟨nd, rfl⟩⟩; refine ⟨_, rfl, ?_⟩) | ((with_reducible refine gate_dst (N := 25) rfl ?_); refine Kd.R_lit (Kd.int .i64) _ 3 ?hg (N := 25) ?hd (xs := ([] : List Int)) (inner := []) (ok := fun _ => True) (okp := fun _ => True) ?hr ?hp (fun _ hk => hk) trivial (Below.refl _ _) (yN _) (by simp) ?_; (case hd => rfl); (case hg => rfl); (case hr => first | (go_simp; done) | (go_simp; rfl)); (case hp => exact (Reps.none _ _)); intro v281 w22 ho23 hb hg_ hnew_; clear hg_ hnew_; (first | rw [← Ny280.out] at ho23 | (simp only [Int.reduceToNat] at ho23; rw [← Ny280.out] at ho23)); have n0_ := zK (Kd.R_lower ho23 (yK (by repeat (first | (with_reducible first | exact HB.out | apply zJ | apply zD | apply zE) | exact HB.out)))); have n1_ := zK (yL (by repeat (first | (with_reducible first | exact HB.out | apply zJ | apply zD | apply zE) | exact HB.out)) hb); clear HB; have HO282 := n0_; have HB := n1_; clear n0_ n1_ hb ho23))
      go_ret2
      exact ⟨_, by first | rfl | (simp [errW_none, errW_some] <;> rfl) | (simp [*, errW_none, errW_some] <;> rfl), by (with_reducible repeat (first | apply zL | apply zM | apply zN)); exact HO282.out, by repeat (first | (with_reducible first | exact HB.out | apply zJ | apply zD | apply zE) | exact HB.out)⟩

/-! ### r07_Share: function 53 -/
mutual
def r07_Share.j0 : Nat → List Int → Int → Bool → Option (List Int × Int)
  | 0, _, _, _ => none
  | k + 1, x0, x1, x19 => if x19 = true then (some ((([] : List Int)), 1)) else ((r07_sum.f k x0).bind fun bt294 => (if bt294.2 = 0 then (r07_Share.l0 k x0 x1 bt294.1 (([] : List Int)) (([] : List Int)) x1 0) else (some ((([] : List Int)), bt294.2))))
def r07_Share.l0 : Nat → List Int → Int → Int → List Int → List Int → Int → Int → Option (List Int × Int)
  | 0, _, _, _, _, _, _, _ => none
  | k + 1, x0, x1, x6, x8, x9, x10, x11 => if x11 < (x0.length : Int) then (if 0 ≤ x11 then (if x6 = 0 then (none) else (if x8.length < 17592186044416 then ((some (x8 ++ [wrap64 (Int.tdiv (wrap64 ((rd x0 x11) * x1)) x6)] : List Int)).bind fun y306 => (if x9.length < 17592186044416 then (if x11 < (y306.length : Int) then (r07_Share.l0 k x0 x1 x6 y306 (x9 ++ [Int.tmod (wrap64 ((rd x0 x11) * x1)) x6]) (wrap64 (x10 - (rd y306 x11))) (wrap64 (x11 + 1))) else (none)) else (none))) else (none))) else (none)) else ((r07_Order.f k x9).bind fun t314 => (r07_Share.l1 k x8 x10 t314 0))
def r07_Share.l1 : Nat → List Int → Int → List Int → Int → Option (List Int × Int)
  | 0, _, _, _, _ => none
  | k + 1, x8, x10, x12, x13 => if x13 < x10 then (if 0 ≤ x13 then (if x13 < (x12.length : Int) then (if 0 ≤ (rd x12 x13) then (if (rd x12 x13) < (x8.length : Int) then (r07_Share.l1 k (x8.set ((rd x12 x13) : Int).toNat (wrap64 ((rd x8 (rd x12 x13)) + 1))) x10 x12 (wrap64 (x13 + 1))) else (none)) else (none)) else (none)) else (none)) else (some (x8, 0))
end
def r07_Share.f (k : Nat) (l0 : List Int) (a1 : Int) : Option (List Int × Int) := if a1 < 1 then (r07_Share.j0 k l0 a1 true) else (r07_Share.j0 k l0 a1 (decide (a1 > 4294967296)))
theorem r07_Share.mono_l : ∀ k, (∀ y0 y1 y2, LeO (r07_Share.j0 k y0 y1 y2) (r07_Share.j0 (k + 1) y0 y1 y2)) ∧ (∀ y0 y1 y2 y3 y4 y5 y6, LeO (r07_Share.l0 k y0 y1 y2 y3 y4 y5 y6) (r07_Share.l0 (k + 1) y0 y1 y2 y3 y4 y5 y6)) ∧ (∀ y0 y1 y2 y3, LeO (r07_Share.l1 k y0 y1 y2 y3) (r07_Share.l1 (k + 1) y0 y1 y2 y3))
  | 0 => ⟨fun _ _ _ r h => by simp [r07_Share.j0] at h, fun _ _ _ _ _ _ _ r h => by simp [r07_Share.l0] at h, fun _ _ _ _ r h => by simp [r07_Share.l1] at h⟩
  | k + 1 => by
    obtain ⟨ih0, ih1, ih2⟩ := r07_Share.mono_l k
    refine ⟨?_, ?_, ?_⟩ <;> (intros; first | unfold r07_Share.j0 | unfold r07_Share.l0 | unfold r07_Share.l1)
    all_goals repeat' first
      | (with_reducible exact ih0 _ _ _)
      | (with_reducible exact ih1 _ _ _ _ _ _ _)
      | (with_reducible exact ih2 _ _ _ _)
      | (with_reducible exact r07_Order.mono _ _)
      | (with_reducible exact r07_sum.mono _ _)
      | (with_reducible exact yR _)
      | (with_reducible exact yO _)
      | (with_reducible refine yQ ?_ ?_)
      | (with_reducible refine yP ?_ (fun _ => ?_))
      | exact ih0 _ _ _
      | exact ih1 _ _ _ _ _ _ _
      | exact ih2 _ _ _ _
      | exact r07_Order.mono _ _
      | exact r07_sum.mono _ _
      | exact yO _
      | refine yQ ?_ ?_
      | refine yP ?_ (fun _ => ?_)
theorem r07_Share.mono : ∀ a0 a1 k, LeO (r07_Share.f k a0 a1) (r07_Share.f (k + 1) a0 a1) := by
  intro a0 a1 k
  obtain ⟨ih0, ih1, ih2⟩ := r07_Share.mono_l k
  unfold r07_Share.f
  repeat' first
      | (with_reducible exact ih0 _ _ _)
      | (with_reducible exact ih1 _ _ _ _ _ _ _)
      | (with_reducible exact ih2 _ _ _ _)
      | (with_reducible exact r07_Order.mono _ _)
      | (with_reducible exact r07_sum.mono _ _)
      | (with_reducible exact yR _)
      | (with_reducible exact yO _)
      | (with_reducible refine yQ ?_ ?_)
      | (with_reducible refine yP ?_ (fun _ => ?_))
      | exact ih0 _ _ _
      | exact ih1 _ _ _ _ _ _ _
      | exact ih2 _ _ _ _
      | exact r07_Order.mono _ _
      | exact r07_sum.mono _ _
      | exact yO _
      | refine yQ ?_ ?_
      | refine yP ?_ (fun _ => ?_)
set_option maxHeartbeats 8000000 in
set_option maxRecDepth 100000 in
theorem r07_Share.calls (k : Nat) (A0 : Option Addr) (c0 : Nat) (l0 : List Int) (a1 : Int) (r1 : List Int) (r2 : Int) (w : World) (hr0 : Kd.C (Kd.int .i64) w A0 l0.length l0) (hc0 : l0.length ≤ c0) (h : r07_Share.f k l0 a1 = some (r1, r2)) :
    Calls Try.prog 53 #[.slice A0 l0.length c0, .int .i64 a1] w fun e w' => ∃ v0_ : Value, e = .returned (.tuple #[v0_, .int .i64 r2]) ∧ Kd.R (Kd.int .i64) 2 w' w.heap.size (fun _ => True) v0_ r1 ∧ Below w.heap.size w w' := by
  have HR0 := zK hr0
  have HC0 := zK hc0
  clear hr0 hc0
  have HB := zK (Below.refl w.heap.size w)
  have H : (if a1 < 1 then (r07_Share.j0 k l0 a1 true) else (r07_Share.j0 k l0 a1 (decide (a1 > 4294967296)))) = some (r1, r2) := h
  clear h
  have HC3 := zK H
  clear H
  go_enter Try.func53, Try.ntmps53
  go_upto_region 1 with (fail)
  go_cut [19] (fun v19 wc => ∃ (kq : Nat) (x19_2 : Bool), v19 = .bool x19_2 ∧ Aside0 (r07_Share.j0 kq l0 a1 x19_2 = some (r1, r2)) ∧ Aside0 (kq ≤ k) ∧ Aside0 (Below w.heap.size w wc))
  case first =>
   have H := HC3.out
   clear HC3
   by_cases c4 : a1 < 1
   ·rw [if_pos c4] at H
    have c4b0 : decide (a1 < 1) = true := yC c4
    clear c4
    (first | rw [c4b0] | (simp only [i64_w, i32_w]; rw [c4b0]) | skip)
    have H' := zK H
    clear H
    go_wp2
    go_meet
    case rel => exact ⟨_, (true), (by first | rfl | (simp; done) | (simp [*]; done)), H', ⟨by first | omega | exact yN _⟩, ⟨by repeat (first | (with_reducible first | exact HB.out | apply zJ | apply zD | apply zE) | exact HB.out)⟩⟩
   ·rw [if_neg c4] at H
    have c4b0 : decide (a1 < 1) = false := yD c4
    clear c4
    (first | rw [c4b0] | (simp only [i64_w, i32_w]; rw [c4b0]) | skip)
    have H' := zK H
    clear H
    go_wp2
    go_meet
    case rel => exact ⟨_, (decide (a1 > 4294967296)), (by first | rfl | (simp; done) | (simp [*]; done)), H', ⟨by first | omega | exact yN _⟩, ⟨by repeat (first | (with_reducible first | exact HB.out | apply zJ | apply zD | apply zE) | exact HB.out)⟩⟩
  case rest =>
   clear HC3
   try clear p2
   try clear c4
   try clear c4b0
   obtain ⟨kq, x19_2, rfl, HA, HJ2, HB⟩ := hcut
   cases kq with
   | zero => exact absurd HA.out (by simp [r07_Share.j0])
   | succ kj2 =>
    have H := HA.out
    clear HA
    simp only [r07_Share.j0] at H
    by_cases c5 : x19_2 = true
    ·subst c5
     have H1 : (some ((([] : List Int)), 1)) = some (r1, r2) := by rw [if_pos rfl] at H; exact H
     clear H
     have H := H1
     clear H1
     obtain ⟨y291, hy291⟩ : ∃ y_ : List Int, y_ = (([] : List Int)) := ⟨_, rfl⟩
     replace H : (some (y291, 1)) = some (r1, r2) := by first | (rw [hy291]; with_reducible exact H) | (have H2_ := (yV _ _).symm.trans H; rw [hy291]; with_reducible exact H2_) | (have H2_ := (yV _ _).symm.trans H; with_reducible exact H2_) | with_reducible exact H | (rw [hy291]; exact H) | exact H
     have Ny291 := zK hy291
     clear hy291
     simp only [yZ, ya] at H
     obtain ⟨rfl, rfl⟩ := H
     go_wp2_with (first | ((with_reducible refine gate_dst (N := 20) rfl ?_); refine Kd.R_lit (Kd.int .i64) _ 2 ?hg (N := 20) ?hd (xs := ([] : List Int)) (inner := []) (ok := fun _ => True) (okp := fun _ => True) ?hr ?hp (fun _ hk => hk) trivial (Below.refl _ _) (yN _) (by simp) ?_; (case hd => rfl); (case hg => rfl); (case hr => first | (go_simp; done) | (go_simp; rfl)); (case hp => exact (Reps.none _ _)); intro v292 w6 ho7 hb hg_ hnew_; clear hg_ hnew_; (first | rw [← Ny291.out] at ho7 | (simp only [Int.reduceToNat] at ho7; rw [← Ny291.out] at ho7)); have n0_ := zK (Kd.R_lower ho7 (yK (by repeat (first | (with_reducible first | exact HB.out | apply zJ | apply zD | apply zE) | exact HB.out)))); have n1_ := zK (yL (by repeat (first | (with_reducible first | exact HB.out | apply zJ | apply zD | apply zE) | exact HB.out)) hb); clear HB; have HO293 := n0_; have HB := n1_; clear n0_ n1_ hb ho7))
     go_ret2
     exact ⟨_, by first | rfl | (simp [errW_none, errW_some] <;> rfl) | (simp [*, errW_none, errW_some] <;> rfl), by (with_reducible repeat (first | apply zL | apply zM | apply zN)); exact HO293.out, by repeat (first | (with_reducible first | exact HB.out | apply zJ | apply zD | apply zE) | exact HB.out)⟩
    ·replace c5 := yh.mpr c5
     subst c5
     have H1 : ((r07_sum.f kj2 l0).bind fun bt294 => (if bt294.2 = 0 then (r07_Share.l0 kj2 l0 a1 bt294.1 (([] : List Int)) (([] : List Int)) a1 0) else (some ((([] : List Int)), bt294.2)))) = some (r1, r2) := by rw [if_neg (show ¬ (false = true) by decide)] at H; exact H
     clear H
     have H := H1
     clear H1
     replace H := yA.mp H
     obtain ⟨⟨t294, t295⟩, A80, H⟩ := H
     replace H : (if t295 = 0 then (r07_Share.l0 kj2 l0 a1 t294 (([] : List Int)) (([] : List Int)) a1 0) else (some ((([] : List Int)), t295))) = some (r1, r2) := H
     have A8 := zK A80
     clear A80
     by_cases c9 : t295 = 0
     ·rw [if_pos c9] at H
      have c9b0 : (t295 == 0) = true := beq_iff_eq.mpr c9
      have c9b1 : (t295 != 0) = false := bne_eq_false_iff_eq.mpr c9
      clear c9
      obtain ⟨y299, hy299⟩ : ∃ y_ : List Int, y_ = (([] : List Int)) := ⟨_, rfl⟩
      replace H : (r07_Share.l0 kj2 l0 a1 t294 y299 (([] : List Int)) a1 0) = some (r1, r2) := by first | (rw [hy299]; with_reducible exact H) | (have H2_ := (yV _ _).symm.trans H; rw [hy299]; with_reducible exact H2_) | (have H2_ := (yV _ _).symm.trans H; with_reducible exact H2_) | with_reducible exact H | (rw [hy299]; exact H) | exact H
      have Ny299 := zK hy299
      clear hy299
      obtain ⟨y302, hy302⟩ : ∃ y_ : List Int, y_ = (([] : List Int)) := ⟨_, rfl⟩
      replace H : (r07_Share.l0 kj2 l0 a1 t294 y299 y302 a1 0) = some (r1, r2) := by first | (rw [hy302]; with_reducible exact H) | (have H2_ := (yV _ _).symm.trans H; rw [hy302]; with_reducible exact H2_) | (have H2_ := (yV _ _).symm.trans H; with_reducible exact H2_) | with_reducible exact H | (rw [hy302]; exact H) | exact H
      have Ny302 := zK hy302
      clear hy302
      have H' := zK H
      clear H
      go_wp2_with (first | ((with_reducible refine gate_callee (f := 78) rfl ?_); refine goesL_ (some 23) rfl rfl Try.func78 (by kernel_rfl) rfl #[.slice A0 l0.length c0] rfl (by (try simp only [yH, yI, yJ]); first | done | rfl | (simp only [yG, yF]; rfl)) ?_; (with_reducible refine (r07_sum.calls kj2 _ _ l0 t294 t295 _ ?side1 ?side2 A8.out).mono ?_); (case side1 => repeat (first | exact (yc HR0.out HB.out) | (with_reducible refine yS ?_ _) | (with_reducible refine yT ?_ _) | (with_reducible refine yU ?_))); (case side2 => exact HC0.out); rintro e w' ⟨rfl, ⟨nd, rfl⟩⟩; refine ⟨_, rfl, ?_⟩) | ((with_reducible refine gate_dst (N := 30) rfl ?_); refine Kd.R_lit (Kd.int .i64) _ 2 ?hg (N := 30) ?hd (xs := ([] : List Int)) (inner := []) (ok := fun _ => True) (okp := fun _ => True) ?hr ?hp (fun _ hk => hk) trivial (Below.refl _ _) (yN _) (by simp) ?_; (case hd => rfl); (case hg => rfl); (case hr => first | (go_simp; done) | (go_simp; rfl)); (case hp => exact (Reps.none _ _)); intro v300 w10 ho11 hb hg_ hnew_; clear hg_ hnew_; (first | rw [← Ny299.out] at ho11 | (simp only [Int.reduceToNat] at ho11; rw [← Ny299.out] at ho11)); have n0_ := zK (Kd.R_lower ho11 (yK (by repeat (first | (with_reducible first | exact HB.out | apply zJ | apply zD | apply zE) | exact HB.out)))); have n1_ := zK (yL (by repeat (first | (with_reducible first | exact HB.out | apply zJ | apply zD | apply zE) | exact HB.out)) hb); clear HB; have HO301 := n0_; have HB := n1_; clear n0_ n1_ hb ho11) | ((with_reducible refine gate_dst (N := 31) rfl ?_); refine Kd.R_lit (Kd.int .i64) _ 2 ?hg (N := 31) ?hd (xs := ([] : List Int)) (inner := []) (ok := fun _ => True) (okp := fun _ => True) ?hr ?hp (fun _ hk => hk) trivial (Below.refl _ _) (yN _) (by simp) ?_; (case hd => rfl); (case hg => rfl); (case hr => first | (go_simp; done) | (go_simp; rfl)); (case hp => exact (Reps.none _ _)); intro v303 w12 ho13 hb hg_ hnew_; clear hg_ hnew_; (first | rw [← Ny302.out] at ho13 | (simp only [Int.reduceToNat] at ho13; rw [← Ny302.out] at ho13)); have n0_ := zK (Kd.R_elder' (by (with_reducible repeat (first | apply zL | apply zM | apply zN)); exact HO301.out) (Kd.R_base ho13) hb); have n1_ := zK (Kd.R_lower (Kd.R_new' ho13 (Kd.R_lt (by (with_reducible repeat (first | apply zL | apply zM | apply zN)); exact HO301.out))) (yK (by repeat (first | (with_reducible first | exact HB.out | apply zJ | apply zD | apply zE) | exact HB.out)))); have n2_ := zK (yL (by repeat (first | (with_reducible first | exact HB.out | apply zJ | apply zD | apply zE) | exact HB.out)) hb); clear HO301 HB; have HO301 := n0_; have HO304 := n1_; have HB := n2_; clear n0_ n1_ n2_ hb ho13))
      go_loopg [8, 9, 10, 11] kj2 (fun kq v8 v9 v10 v11 w' => ∃ (x8_2 : List Int) (x9_2 : List Int) (x10_2 : Int) (x11_2 : Int), v10 = .int .i64 x10_2 ∧ v11 = .int .i64 x11_2 ∧ Aside0 (r07_Share.l0 kq l0 a1 t294 x8_2 x9_2 x10_2 x11_2 = some (r1, r2)) ∧ Aside0 (kq ≤ kj2) ∧ Aside0 (Kd.R (Kd.int .i64) 2 w' w.heap.size (fun k_ => some k_ ≠ (v9 : Value).ownBlock) v8 x8_2) ∧ Aside0 (Kd.R (Kd.int .i64) 2 w' w.heap.size (fun k_ => some k_ ≠ (v8 : Value).ownBlock) v9 x9_2) ∧ Aside0 (Below w.heap.size w w'))
      case atStart => exact ⟨(y299), (y302), (a1), (0), (by first | rfl | (simp; done) | (simp [*]; done)), (by first | rfl | (simp; done) | (simp [*]; done)), H', ⟨yN _⟩, ⟨by (with_reducible repeat (first | apply zL | apply zM | apply zN)); exact yd HO301.out (fun _ hk => hk.2)⟩, ⟨by (with_reducible repeat (first | apply zL | apply zM | apply zN)); exact yd HO304.out (fun _ hk => hk.2)⟩, ⟨by repeat (first | (with_reducible first | exact HB.out | apply zJ | apply zD | apply zE) | exact HB.out)⟩⟩
      case round =>
       clear H'
       try clear p2
       try clear c4
       try clear c4b0
       try clear c5
       try clear c7
       try clear c9
       try clear c9b0
       try clear c9b1
       try clear p2
       obtain ⟨x8_2, x9_2, x10_2, x11_2, rfl, rfl, HA, HK2, HO_8, HO_9, HB⟩ := hrel
       cases gk with
       | zero => exact absurd HA.out (by simp [r07_Share.l0])
       | succ k2 =>
        have H := HA.out
        clear HA
        simp only [r07_Share.l0] at H
        by_cases c14 : x11_2 < (l0.length : Int)
        ·rw [if_pos c14] at H
         have c14b0 : decide (x11_2 < (l0.length : Int)) = true := yC c14
         clear c14
         by_cases c15 : 0 ≤ x11_2
         ·rw [if_pos c15] at H
          have c15b0 : decide (0 ≤ x11_2) = true := yC c15
          clear c15
          by_cases c16 : t294 = 0
          ·rw [if_pos c16] at H
           exact absurd H (by simp)
          ·rw [if_neg c16] at H
           have c16b0 : (t294 == 0) = false := beq_eq_false_iff_ne.mpr c16
           have c16b1 : (t294 != 0) = true := bne_iff_ne.mpr c16
           by_cases c17 : x8_2.length < 17592186044416
           ·rw [if_pos c17] at H
            have LMc17 := zK c17
            clear c17
            obtain ⟨y306, hy306⟩ : ∃ y_ : List Int, y_ = (x8_2 ++ [wrap64 (Int.tdiv (wrap64 ((rd l0 x11_2) * a1)) t294)]) := ⟨_, rfl⟩
            replace H : (if x9_2.length < 17592186044416 then (if x11_2 < (y306.length : Int) then (r07_Share.l0 k2 l0 a1 t294 y306 (x9_2 ++ [Int.tmod (wrap64 ((rd l0 x11_2) * a1)) t294]) (wrap64 (x10_2 - (rd y306 x11_2))) (wrap64 (x11_2 + 1))) else (none)) else (none)) = some (r1, r2) := by first | (rw [hy306]; with_reducible exact H) | (have H2_ := (yV _ _).symm.trans H; rw [hy306]; with_reducible exact H2_) | (have H2_ := (yV _ _).symm.trans H; with_reducible exact H2_) | with_reducible exact H | (rw [hy306]; exact H) | exact H
            have Ny306 := zK hy306
            clear hy306
            by_cases c18 : x9_2.length < 17592186044416
            ·rw [if_pos c18] at H
             have LMc18 := zK c18
             clear c18
             obtain ⟨y310, hy310⟩ : ∃ y_ : List Int, y_ = (x9_2 ++ [Int.tmod (wrap64 ((rd l0 x11_2) * a1)) t294]) := ⟨_, rfl⟩
             replace H : (if x11_2 < (y306.length : Int) then (r07_Share.l0 k2 l0 a1 t294 y306 y310 (wrap64 (x10_2 - (rd y306 x11_2))) (wrap64 (x11_2 + 1))) else (none)) = some (r1, r2) := by first | (rw [hy310]; with_reducible exact H) | (have H2_ := (yV _ _).symm.trans H; rw [hy310]; with_reducible exact H2_) | (have H2_ := (yV _ _).symm.trans H; with_reducible exact H2_) | with_reducible exact H | (rw [hy310]; exact H) | exact H
             have Ny310 := zK hy310
             clear hy310
             by_cases c19 : x11_2 < (y306.length : Int)
             ·rw [if_pos c19] at H
              have c19b0 : decide (x11_2 < (y306.length : Int)) = true := yC c19
              clear c19
              have H' := zK H
              clear H
              have p305 : 0 ≤ (x11_2 : Int) := yB (by first | (with_reducible assumption) | assumption)
              have q305 : x11_2 < (l0.length : Int) := yB (by first | (with_reducible assumption) | assumption)
              obtain ⟨ad305, e305, hx305_0⟩ := Kd.at_int HR0.out x11_2 p305 q305
              cases e305
              replace hx305_0 := (HB.out.cell (World.block_lt_of_cell? w _ hx305_0)).trans hx305_0
              replace p305 := yg p305
              replace q305 := yg q305
              go_wp2_with (first | ((with_reducible refine gate_builtin (b := .append) (xs := #[.tmp 39, .tmp 48]) rfl ?_); at_builtin; refine Kd.R_append (Kd.int .i64) (w0 := w) w.heap.size rfl (.tmp 39) (.tmp 48) 36 2 (.int .i64 0) 8 rfl Try.underlying36 info2 rfl (by decide) (by omega) u8 x8_2 (wrap64 (Int.tdiv (wrap64 ((rd l0 x11_2) * a1)) t294)) [.int .i64 (wrap64 (Int.tdiv (wrap64 ((rd l0 x11_2) * a1)) t294))] (fun k_ => some k_ ≠ (u9 : Value).ownBlock) (fun _ => False) rfl rfl ?aP (fun _ hk => hk.elim) ?aF ?aO ?aB ?aS ?aL ?_; (case aP => exact rfl); (case aB => exact (by repeat (first | (with_reducible first | exact HB.out | apply zJ | apply zD | apply zE) | exact HB.out))); (case aF => exact (fun k_ hk => Kd.fresh' (Kd.R_lt (by (with_reducible repeat (first | apply zL | apply zM | apply zN)); exact HO_9.out)) k_ hk)); (case aO => exact (by (with_reducible repeat (first | apply zL | apply zM | apply zN)); exact HO_8.out)); (case aS => exact (yK (by repeat (first | (with_reducible first | exact HB.out | apply zJ | apply zD | apply zE) | exact HB.out)))); (case aL => have := LMc17.out; omega); intro v307 w20 ho hb hg hat; rw [← Ny306.out] at ho; have n0_ := zK (Kd.R_after (ok := (fun _ => True)) (by (with_reducible repeat (first | apply zL | apply zM | apply zN)); exact yd HO_9.out (fun _ hk => ⟨trivial, hk⟩)) hg hat); have n1_ := zK (hb); have n2_ := zK (ho); clear HO_9 HB HO_8; have HO_9 := n0_; have HB := n1_; have HO308 := n2_; clear n0_ n1_ n2_ ho hb hg hat; have p309 : 0 ≤ (x11_2 : Int) := yB (by first | (with_reducible assumption) | assumption); have q309 : x11_2 < (l0.length : Int) := yB (by first | (with_reducible assumption) | assumption); obtain ⟨ad309, e309, hx309_0⟩ := Kd.at_int HR0.out x11_2 p309 q309; obtain rfl : ad305 = ad309 := (by injection e309); replace hx309_0 := (HB.out.cell (World.block_lt_of_cell? w _ hx309_0)).trans hx309_0; replace p309 := yg p309; replace q309 := yg q309) | ((with_reducible refine gate_builtin (b := .append) (xs := #[.tmp 50, .tmp 59]) rfl ?_); at_builtin; refine Kd.R_append (Kd.int .i64) (w0 := w) w.heap.size rfl (.tmp 50) (.tmp 59) 36 2 (.int .i64 0) 8 rfl Try.underlying36 info2 rfl (by decide) (by omega) u9 x9_2 (Int.tmod (wrap64 ((rd l0 x11_2) * a1)) t294) [.int .i64 (Int.tmod (wrap64 ((rd l0 x11_2) * a1)) t294)] (fun k_ => some k_ ≠ (v307 : Value).ownBlock) (fun _ => False) rfl rfl ?aP (fun _ hk => hk.elim) ?aF ?aO ?aB ?aS ?aL ?_; (case aP => exact rfl); (case aB => exact (by repeat (first | (with_reducible first | exact HB.out | apply zJ | apply zD | apply zE) | exact HB.out))); (case aF => exact (fun k_ hk => Kd.fresh' (Kd.R_lt (by (with_reducible repeat (first | apply zL | apply zM | apply zN)); exact HO308.out)) k_ hk)); (case aO => exact (by (with_reducible repeat (first | apply zL | apply zM | apply zN)); exact yd HO_9.out (fun _ hk => hk.2))); (case aS => exact (yK (by repeat (first | (with_reducible first | exact HB.out | apply zJ | apply zD | apply zE) | exact HB.out)))); (case aL => have := LMc18.out; omega); intro v311 w21 ho hb hg hat; rw [← Ny310.out] at ho; have n0_ := zK (Kd.R_after (ok := (fun _ => True)) (by (with_reducible repeat (first | apply zL | apply zM | apply zN)); exact yd HO308.out (fun _ hk => ⟨trivial, hk⟩)) hg hat); have n1_ := zK (hb); have n2_ := zK (ho); clear HO308 HB HO_9; have HO308 := n0_; have HB := n1_; have HO312 := n2_; clear n0_ n1_ n2_ ho hb hg hat; obtain ⟨Ao22, co22, eo22⟩ := Kd.R_slice HO308.out; subst eo22; have p313 : 0 ≤ (x11_2 : Int) := yB (by first | (with_reducible assumption) | assumption); have q313 : x11_2 < (y306.length : Int) := yB (by first | (with_reducible assumption) | assumption); obtain ⟨ad313, e313, hx313_0⟩ := Kd.at_int (yM HO308.out).2.2 x11_2 p313 q313; cases e313; replace p313 := yg p313; replace q313 := yg q313))
              go_roundg k2
              case measure => have := HJ2.out; have := HK2.out; omega
              case rel => exact ⟨(y306), (y310), (wrap64 (x10_2 - (rd y306 x11_2))), (wrap64 (x11_2 + 1)), (by first | rfl | (simp; done) | (simp [*]; done)), (by first | rfl | (simp; done) | (simp [*]; done)), H', ⟨by have := HJ2.out; have := HK2.out; omega⟩, ⟨by (with_reducible repeat (first | apply zL | apply zM | apply zN)); exact yd HO308.out (fun _ hk => hk.2)⟩, ⟨by (with_reducible repeat (first | apply zL | apply zM | apply zN)); exact HO312.out⟩, ⟨by repeat (first | (with_reducible first | exact HB.out | apply zJ | apply zD | apply zE) | exact HB.out)⟩⟩
             ·rw [if_neg c19] at H
              exact absurd H (by simp)
            ·rw [if_neg c18] at H
             exact absurd H (by simp)
           ·rw [if_neg c17] at H
            exact absurd H (by simp)
         ·rw [if_neg c15] at H
          exact absurd H (by simp)
        ·rw [if_neg c14] at H
         have c14b0 : decide (x11_2 < (l0.length : Int)) = false := yD c14
         clear c14
         replace H := yA.mp H
         obtain ⟨t314, A230, H⟩ := H
         replace H : (r07_Share.l1 k2 x8_2 x10_2 t314 0) = some (r1, r2) := H
         have A23 := zK A230
         clear A230
         have H' := zK H
         clear H
         obtain ⟨Ao24, co24, eo24⟩ := Kd.R_slice HO_9.out
         subst eo24
         go_wp2_with (first | ((with_reducible refine gate_callee (f := 77) rfl ?_); refine goesL_ (some 68) rfl rfl Try.func77 (by kernel_rfl) rfl #[.slice Ao24 x9_2.length co24] rfl (by (try simp only [yH, yI, yJ]); first | done | rfl | (simp only [yG, yF]; rfl)) ?_; (with_reducible refine (r07_Order.calls k2 _ _ x9_2 t314 _ ?side1 ?side2 A23.out).mono ?_); (case side1 => repeat (first | exact (yM HO_9.out).2.2 | (with_reducible refine yS ?_ _) | (with_reducible refine yT ?_ _) | (with_reducible refine yU ?_))); (case side2 => exact (yM HO_9.out).2.1); rintro e w25 ⟨v315, rfl, ho0, hb⟩; refine ⟨_, rfl, ?_⟩; have n0_ := zK (yb (by (with_reducible repeat (first | apply zL | apply zM | apply zN)); exact HO_8.out) hb); have n1_ := zK (yb (by (with_reducible repeat (first | apply zL | apply zM | apply zN)); exact HO_9.out) hb); have n2_ := zK (Kd.R_lower ho0 (yK (by repeat (first | (with_reducible first | exact HB.out | apply zJ | apply zD | apply zE) | exact HB.out)))); have n3_ := zK (yL (by repeat (first | (with_reducible first | exact HB.out | apply zJ | apply zD | apply zE) | exact HB.out)) hb); clear HO_8 HO_9 HB; have HO_8 := n0_; have HO_9 := n1_; have HO316 := n2_; have HB := n3_; clear n0_ n1_ n2_ n3_; (try clear hb); (try clear hb2); (try clear hk); (try clear hi); (try clear ho0)))
         go_loopg [13] k2 (fun kq v13 w' => ∃ (x8_3 : List Int) (x13_3 : Int), v13 = .int .i64 x13_3 ∧ Aside0 (r07_Share.l1 kq x8_3 x10_2 t314 x13_3 = some (r1, r2)) ∧ Aside0 (kq ≤ k2) ∧ Aside0 (Kd.R (Kd.int .i64) 2 w' w.heap.size (fun _ => True) u8 x8_3) ∧ Aside0 (Kd.R (Kd.int .i64) 3 w' w.heap.size (fun _ => True) v315 t314) ∧ Aside0 (Below w.heap.size w w'))
         case atStart => exact ⟨(x8_2), (0), (by first | rfl | (simp; done) | (simp [*]; done)), H', ⟨yN _⟩, ⟨by (with_reducible repeat (first | apply zL | apply zM | apply zN)); exact yd HO_8.out (fun _ hk => trivial)⟩, ⟨by (with_reducible repeat (first | apply zL | apply zM | apply zN)); exact HO316.out⟩, ⟨by repeat (first | (with_reducible first | exact HB.out | apply zJ | apply zD | apply zE) | exact HB.out)⟩⟩
         case round =>
          clear H'
          try clear c1
          try clear p2
          try clear p3
          try clear q3
          try clear hx3
          try clear c4
          try clear c4b0
          try clear c5
          try clear p6
          try clear c7
          try clear c9
          try clear c9b0
          try clear c9b1
          try clear c14
          try clear c14b0
          try clear c15
          try clear c15b0
          try clear c16
          try clear c16b0
          try clear c16b1
          try clear c17
          try clear c18
          try clear c19
          try clear c19b0
          try clear hx305_0
          try clear hx309_0
          try clear hx313_0
          try clear p2
          try clear p305
          try clear p309
          try clear p313
          try clear q305
          try clear q309
          try clear q313
          obtain ⟨x8_3, x13_3, rfl, HA, HK3, HO_8, HO_12, HB⟩ := hrel
          cases gk with
          | zero => exact absurd HA.out (by simp [r07_Share.l1])
          | succ k3 =>
           have H := HA.out
           clear HA
           simp only [r07_Share.l1] at H
           by_cases c26 : x13_3 < x10_2
           ·rw [if_pos c26] at H
            have c26b0 : decide (x13_3 < x10_2) = true := yC c26
            clear c26
            by_cases c27 : 0 ≤ x13_3
            ·rw [if_pos c27] at H
             have c27b0 : decide (0 ≤ x13_3) = true := yC c27
             clear c27
             by_cases c28 : x13_3 < (t314.length : Int)
             ·rw [if_pos c28] at H
              have c28b0 : decide (x13_3 < (t314.length : Int)) = true := yC c28
              clear c28
              by_cases c29 : 0 ≤ (rd t314 x13_3)
              ·rw [if_pos c29] at H
               have c29b0 : decide (0 ≤ (rd t314 x13_3)) = true := yC c29
               clear c29
               by_cases c30 : (rd t314 x13_3) < (x8_3.length : Int)
               ·rw [if_pos c30] at H
                have c30b0 : decide ((rd t314 x13_3) < (x8_3.length : Int)) = true := yC c30
                clear c30
                obtain ⟨y319, hy319⟩ : ∃ y_ : List Int, y_ = (x8_3.set ((rd t314 x13_3) : Int).toNat (wrap64 ((rd x8_3 (rd t314 x13_3)) + 1))) := ⟨_, rfl⟩
                replace H : (r07_Share.l1 k3 y319 x10_2 t314 (wrap64 (x13_3 + 1))) = some (r1, r2) := by first | (rw [hy319]; with_reducible exact H) | (have H2_ := (yV _ _).symm.trans H; rw [hy319]; with_reducible exact H2_) | (have H2_ := (yV _ _).symm.trans H; with_reducible exact H2_) | with_reducible exact H | (rw [hy319]; exact H) | exact H
                have Ny319 := zK hy319
                clear hy319
                have H' := zK H
                clear H
                obtain ⟨Ao32, co32, eo32⟩ := Kd.R_slice HO_12.out
                subst eo32
                have p317 : 0 ≤ (x13_3 : Int) := yB (by first | (with_reducible assumption) | assumption)
                have q317 : x13_3 < (t314.length : Int) := yB (by first | (with_reducible assumption) | assumption)
                obtain ⟨ad317, e317, hx317_0⟩ := Kd.at_int (yM HO_12.out).2.2 x13_3 p317 q317
                cases e317
                replace p317 := yg p317
                replace q317 := yg q317
                obtain ⟨Ao33, co33, eo33⟩ := Kd.R_slice HO_8.out
                subst eo33
                have p318 : 0 ≤ ((rd t314 x13_3) : Int) := yB (by first | (with_reducible assumption) | assumption)
                have q318 : (rd t314 x13_3) < (x8_3.length : Int) := yB (by first | (with_reducible assumption) | assumption)
                obtain ⟨ad318, e318, hx318_0⟩ := Kd.at_int (yM HO_8.out).2.2 (rd t314 x13_3) p318 q318
                cases e318
                replace p318 := yg p318
                replace q318 := yg q318
                have p31 : 0 ≤ ((rd t314 x13_3) : Int) := yB (by first | (with_reducible assumption) | assumption)
                have q31 : ((rd t314 x13_3) : Int) < ((x8_3.length : Int) : Int) := yB (by first | (with_reducible assumption) | assumption)
                obtain ⟨go31, co31, eo31, Z0, gl31, cl31, HG31⟩ := Kd.R_form HO_8.out (by omega)
                (first | cases eo31 | (injection eo31 with ea_ en_ ec_; (first | subst ea_ | (injection ea_ with ea_; subst ea_)); subst ec_; clear en_))
                have GB31 := zK Z0
                have GG31 := zK HG31
                clear Z0 gl31 HG31
                (first | simp only [add_plain] at hx318_0 | skip)
                obtain ⟨hx31_0, hf31_0⟩ := Kd.R_celln 0 HO_8.out ((rd t314 x13_3) : Int) p31 q31
                replace p31 := yg p31
                replace q31 := yg q31
                have HP34 := Kd.R_putg HO_8.out ((rd t314 x13_3) : Int) (wrap64 ((rd x8_3 (rd t314 x13_3)) + 1))
                go_wp2_with (first | ((with_reducible refine gate_store (t := 2) (p := 82) rfl ?_); refine store_event (t := 2) (p := 82) (v := ?vo_w35) (w1 := (wr.setCell ⟨go31, ((rd t314 x13_3) : Int).toNat, none⟩ (.int .i64 (wrap64 ((rd x8_3 (rd t314 x13_3)) + 1))))) ?hg ?ho ?hn ?hr ?_; (case ho => rfl); (case hg => rfl); (case hn => rfl); (case hr => first | (go_simp; done) | (go_simp; rfl)); intro w35 hw; have hg : wr.grownBy w35 (some go31) := (by rw [hw]; exact HP34.2); have hp_ : Kd.R (Kd.int .i64) 2 w35 w.heap.size (fun _ => True) (.slice (some ⟨go31, 0, none⟩) x8_3.length co33) y319 := (by rw [hw, Ny319.out]; exact HP34.1); clear HP34; have n0_ := zK (hp_); have n1_ := zK (Kd.R_over' (v := (.slice (some ⟨go31, 0, none⟩) x8_3.length co33)) (by (with_reducible repeat (first | apply zL | apply zM | apply zN)); exact HO_12.out) (Kd.R_typed HO_8.out) (by decide) hg); have n2_ := zK ((by rw [hw]; exact zI (HB.out) GB31.out : Below w.heap.size w w35)); clear HO_8 HO_12 HB; have HO_8 := n0_; have HO_12 := n1_; have HB := n2_; clear n0_ n1_ n2_ hg hw hp_))
                go_roundg k3
                case measure => have := HJ2.out; have := HK2.out; have := HK3.out; omega
                case rel => exact ⟨(y319), (wrap64 (x13_3 + 1)), (by first | rfl | (simp; done) | (simp [*]; done)), H', ⟨by have := HJ2.out; have := HK2.out; have := HK3.out; omega⟩, ⟨by (with_reducible repeat (first | apply zL | apply zM | apply zN)); exact HO_8.out⟩, ⟨by (with_reducible repeat (first | apply zL | apply zM | apply zN)); exact HO_12.out⟩, ⟨by repeat (first | (with_reducible first | exact HB.out | apply zJ | apply zD | apply zE) | exact HB.out)⟩⟩
               ·rw [if_neg c30] at H
                exact absurd H (by simp)
              ·rw [if_neg c29] at H
               exact absurd H (by simp)
             ·rw [if_neg c28] at H
              exact absurd H (by simp)
            ·rw [if_neg c27] at H
             exact absurd H (by simp)
           ·rw [if_neg c26] at H
            have c26b0 : decide (x13_3 < x10_2) = false := yD c26
            clear c26
            simp only [yZ, ya] at H
            obtain ⟨rfl, rfl⟩ := H
            go_wp2
            go_ret2
            exact ⟨_, by first | rfl | (simp [errW_none, errW_some] <;> rfl) | (simp [*, errW_none, errW_some] <;> rfl), by (with_reducible repeat (first | apply zL | apply zM | apply zN)); exact HO_8.out, by repeat (first | (with_reducible first | exact HB.out | apply zJ | apply zD | apply zE) | exact HB.out)⟩
     ·rw [if_neg c9] at H
      have c9b0 : (t295 == 0) = false := beq_eq_false_iff_ne.mpr c9
      have c9b1 : (t295 != 0) = true := bne_iff_ne.mpr c9
      obtain ⟨y296, hy296⟩ : ∃ y_ : List Int, y_ = (([] : List Int)) := ⟨_, rfl⟩
      replace H : (some (y296, t295)) = some (r1, r2) := by first | (rw [hy296]; with_reducible exact H) | (have H2_ := (yV _ _).symm.trans H; rw [hy296]; with_reducible exact H2_) | (have H2_ := (yV _ _).symm.trans H; with_reducible exact H2_) | with_reducible exact H | (rw [hy296]; exact H) | exact H
      have Ny296 := zK hy296
      clear hy296
      simp only [yZ, ya] at H
      obtain ⟨rfl, rfl⟩ := H
      go_wp2_with (first | ((with_reducible refine gate_callee (f := 78) rfl ?_); refine goesL_ (some 23) rfl rfl Try.func78 (by kernel_rfl) rfl #[.slice A0 l0.length c0] rfl (by (try simp only [yH, yI, yJ]); first | done | rfl | (simp only [yG, yF]; rfl)) ?_; (with_reducible refine (r07_sum.calls kj2 _ _ l0 t294 t295 _ ?side1 ?side2 A8.out).mono ?_); (case side1 => repeat (first | exact (yc HR0.out HB.out) | (with_reducible refine yS ?_ _) | (with_reducible refine yT ?_ _) | (with_reducible refine yU ?_))); (case side2 => exact HC0.out); rintro e w' ⟨rfl, ⟨nd, rfl⟩⟩; refine ⟨_, rfl, ?_⟩) | ((with_reducible refine gate_dst (N := 28) rfl ?_); refine Kd.R_lit (Kd.int .i64) _ 2 ?hg (N := 28) ?hd (xs := ([] : List Int)) (inner := []) (ok := fun _ => True) (okp := fun _ => True) ?hr ?hp (fun _ hk => hk) trivial (Below.refl _ _) (yN _) (by simp) ?_; (case hd => rfl); (case hg => rfl); (case hr => first | (go_simp; done) | (go_simp; rfl)); (case hp => exact (Reps.none _ _)); intro v297 w36 ho37 hb hg_ hnew_; clear hg_ hnew_; (first | rw [← Ny296.out] at ho37 | (simp only [Int.reduceToNat] at ho37; rw [← Ny296.out] at ho37)); have n0_ := zK (Kd.R_lower ho37 (yK (by repeat (first | (with_reducible first | exact HB.out | apply zJ | apply zD | apply zE) | exact HB.out)))); have n1_ := zK (yL (by repeat (first | (with_reducible first | exact HB.out | apply zJ | apply zD | apply zE) | exact HB.out)) hb); clear HB; have HO298 := n0_; have HB := n1_; clear n0_ n1_ hb ho37))
      go_ret2
      exact ⟨_, by first | rfl | (simp [errW_none, errW_some] <;> rfl) | (simp [*, errW_none, errW_some] <;> rfl), by (with_reducible repeat (first | apply zL | apply zM | apply zN)); exact HO298.out, by repeat (first | (with_reducible first | exact HB.out | apply zJ | apply zD | apply zE) | exact HB.out)⟩

end Go.Proofs.Ythmckhfjaleomaa.T
