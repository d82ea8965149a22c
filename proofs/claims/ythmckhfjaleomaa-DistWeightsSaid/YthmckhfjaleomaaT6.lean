-- Printed by this session's own driver (wip/tools/xprint.py) over the kit's printer; given functions are this session's own.
import Derived.Test.YthmckhfjaleomaaT0
import Derived.Test.YthmckhfjaleomaaT5
namespace Go.Proofs.Ythmckhfjaleomaa.T
open Go.RowKit Go.Proofs.YthmckhfjaleomaaW.PrintWords Go.Proofs.YthmckhfjaleomaaW.PrintLast Go.Proofs.YthmckhfjaleomaaW.PrintMore
attribute [local go_sem] max2_int min2_int max_two min_two max_three min_three max_four min_four   -- for this text's walks alone
set_option linter.unusedVariables false
set_option linter.unusedSimpArgs false

/-! ### w22_awake: function 13 -/
def w22_awake.f (k : Nat)  : Option (Bool) := (dist_Weights.f k (([256, 0] : List Int)) ([] : List Bool) 1 1 0 65536 2 ([] : List (S46))).bind fun bt193 => (if bt193.2 = 0 then (if (bt193.1.length : Int) = 2 then (if 0 < (bt193.1.length : Int) then (if (rd bt193.1 0) = 3 then (if 1 < (bt193.1.length : Int) then (some ((rd bt193.1 1) == 1)) else (none)) else (some false)) else (none)) else (some false)) else (some false))
theorem w22_awake.mono : ∀ k, LeO (w22_awake.f k ) (w22_awake.f (k + 1) ) := by
  intro  k
  unfold w22_awake.f
  repeat' first
      | (with_reducible exact dist_Weights.mono _ _ _ _ _ _ _ _ _)
      | (with_reducible exact yR _)
      | (with_reducible exact yO _)
      | (with_reducible refine yQ ?_ ?_)
      | (with_reducible refine yP ?_ (fun _ => ?_))
      | exact dist_Weights.mono _ _ _ _ _ _ _ _ _
      | exact yO _
      | refine yQ ?_ ?_
      | refine yP ?_ (fun _ => ?_)
set_option maxHeartbeats 8000000 in
set_option maxRecDepth 100000 in
theorem w22_awake.calls (k : Nat)  (r : Bool) (w : World) (h : w22_awake.f k  = some r) :
    Calls Try.prog 13 #[] w fun e w' => e = .returned (.bool r) ∧ Below w.heap.size w w' := by
  have hu24 := Try.underlying24
  have HB := zK (Below.refl w.heap.size w)
  have H : ((dist_Weights.f k (([256, 0] : List Int)) ([] : List Bool) 1 1 0 65536 2 ([] : List (S46))).bind fun bt193 => (if bt193.2 = 0 then (if (bt193.1.length : Int) = 2 then (if 0 < (bt193.1.length : Int) then (if (rd bt193.1 0) = 3 then (if 1 < (bt193.1.length : Int) then (some ((rd bt193.1 1) == 1)) else (none)) else (some false)) else (none)) else (some false)) else (some false))) = some r := h
  clear h
  obtain ⟨y190, hy190⟩ : ∃ y_ : List Int, y_ = (([256, 0] : List Int)) := ⟨_, rfl⟩
  replace H : ((dist_Weights.f k y190 ([] : List Bool) 1 1 0 65536 2 ([] : List (S46))).bind fun bt193 => (if bt193.2 = 0 then (if (bt193.1.length : Int) = 2 then (if 0 < (bt193.1.length : Int) then (if (rd bt193.1 0) = 3 then (if 1 < (bt193.1.length : Int) then (some ((rd bt193.1 1) == 1)) else (none)) else (some false)) else (none)) else (some false)) else (some false))) = some r := by first | (rw [hy190]; with_reducible exact H) | (have H2_ := (yV _ _).symm.trans H; rw [hy190]; with_reducible exact H2_) | (have H2_ := (yV _ _).symm.trans H; with_reducible exact H2_) | with_reducible exact H | (rw [hy190]; exact H) | exact H
  have Ny190 := zK hy190
  clear hy190
  replace H := yA.mp H
  obtain ⟨⟨t193, t196⟩, A10, H⟩ := H
  replace H : (if t196 = 0 then (if (t193.length : Int) = 2 then (if 0 < (t193.length : Int) then (if (rd t193 0) = 3 then (if 1 < (t193.length : Int) then (some ((rd t193 1) == 1)) else (none)) else (some false)) else (none)) else (some false)) else (some false)) = some r := H
  have A1 := zK A10
  clear A10
  by_cases c2 : t196 = 0
  ·rw [if_pos c2] at H
   have c2b0 : (t196 == 0) = true := beq_iff_eq.mpr c2
   have c2b1 : (t196 != 0) = false := bne_eq_false_iff_eq.mpr c2
   clear c2
   by_cases c3 : (t193.length : Int) = 2
   ·rw [if_pos c3] at H
    have c3b0 : ((t193.length : Int) == 2) = true := beq_iff_eq.mpr c3
    have c3b1 : ((t193.length : Int) != 2) = false := bne_eq_false_iff_eq.mpr c3
    clear c3
    by_cases c4 : 0 < (t193.length : Int)
    ·rw [if_pos c4] at H
     have c4b0 : decide (0 < (t193.length : Int)) = true := yC c4
     have c4b1 : decide (0 < t193.length) = true := yC (by omega)
     clear c4
     by_cases c5 : (rd t193 0) = 3
     ·rw [if_pos c5] at H
      have c5b0 : ((rd t193 0) == 3) = true := beq_iff_eq.mpr c5
      have c5b1 : ((rd t193 0) != 3) = false := bne_eq_false_iff_eq.mpr c5
      clear c5
      by_cases c6 : 1 < (t193.length : Int)
      ·rw [if_pos c6] at H
       have c6b0 : decide (1 < (t193.length : Int)) = true := yC c6
       have c6b1 : decide (1 < t193.length) = true := yC (by omega)
       clear c6
       obtain rfl := yY H
       go_enter Try.func13, Try.ntmps13
       go_wp2_with (first | ((with_reducible refine gate_dst (N := 4) rfl ?_); refine Kd.R_lit (Kd.int .i64) _ 2 ?hg (N := 4) ?hd (xs := ([256, 0] : List Int)) (inner := [.int .i64 256, .int .i64 0]) (ok := fun _ => True) (okp := fun _ => True) ?hr ?hp (fun _ hk => hk) trivial (Below.refl _ _) (yN _) (by simp) ?_; (case hd => rfl); (case hg => rfl); (case hr => first | (go_simp; done) | (go_simp; rfl)); (case hp => exact (Reps.one (show Kd.M (Kd.int .i64) _ _ _ 256 [.int .i64 256] from rfl) (Reps.one (show Kd.M (Kd.int .i64) _ _ _ 0 [.int .i64 0] from rfl) (Reps.none _ _)))); intro v191 w7 ho8 hb hg_ hnew_; clear hg_ hnew_; (first | rw [← Ny190.out] at ho8 | (simp only [Int.reduceToNat] at ho8; rw [← Ny190.out] at ho8)); have n0_ := zK (Kd.R_lower ho8 (yK (by repeat (first | (with_reducible first | exact HB.out | apply zJ | apply zD | apply zE) | exact HB.out)))); have n1_ := zK (yL (by repeat (first | (with_reducible first | exact HB.out | apply zJ | apply zD | apply zE) | exact HB.out)) hb); clear HB; have HO192 := n0_; have HB := n1_; clear n0_ n1_ hb ho8; obtain ⟨Ao9, co9, eo9⟩ := Kd.R_slice HO192.out; subst eo9) | ((with_reducible refine gate_callee (f := 19) rfl ?_); refine goesL_ (some 6) rfl rfl Try.func19 (by kernel_rfl) rfl #[.slice Ao9 y190.length co9, .slice none 0 0, .agg #[.int .i64 1, .int .i64 1, .int .i64 0, .int .i64 65536, .int .i64 2, .slice none 0 0]] rfl (by (try simp only [yH, yI, yJ]); first | done | rfl | (simp only [yG, yF]; rfl)) ?_; (refine (dist_Weights.calls k _ _ y190 _ _ ([] : List Bool) 1 1 0 65536 2 _ _ ([] : List (S46)) t193 t196 _ ?side1 ?side2 ?side3 ?side4 ?side5 ?side6 A1.out).mono ?_); (case side1 => repeat (first | exact (yM HO192.out).2.2 | (with_reducible refine yS ?_ _) | (with_reducible refine yT ?_ _) | (with_reducible refine yU ?_))); (case side2 => exact (yM HO192.out).2.1); (case side3 => exact Kd.C_nil _ _); (case side4 => exact yN _); (case side5 => exact Kd.C_nil _ _); (case side6 => exact yN _); rintro e w10 ⟨v194, rfl, ho0, hb⟩; refine ⟨_, rfl, ?_⟩; have n0_ := zK (Kd.R_elder' (by (with_reducible repeat (first | apply zL | apply zM | apply zN)); exact HO192.out) (Kd.R_base ho0) hb); have n1_ := zK (Kd.R_lower (Kd.R_new' ho0 (Kd.R_lt (by (with_reducible repeat (first | apply zL | apply zM | apply zN)); exact HO192.out))) (yK (by repeat (first | (with_reducible first | exact HB.out | apply zJ | apply zD | apply zE) | exact HB.out)))); have n2_ := zK (yL (by repeat (first | (with_reducible first | exact HB.out | apply zJ | apply zD | apply zE) | exact HB.out)) hb); clear HO192 HB; have HO192 := n0_; have HO195 := n1_; have HB := n2_; clear n0_ n1_ n2_; (try clear hb); (try clear hb2); (try clear hk); (try clear hi); (try clear ho0); obtain ⟨Ao11, co11, eo11⟩ := Kd.R_slice HO195.out; subst eo11; have p197 : 0 ≤ (0 : Int) := (by omega); have q197 : 0 < (t193.length : Int) := yB (by first | (with_reducible assumption) | assumption); obtain ⟨ad197, e197, hx197_0⟩ := Kd.at_int (yM HO195.out).2.2 0 p197 q197; cases e197; have qi197 : (0 < t193.length) = True := yg (by omega); (try rw [show ((0 : Int)).toNat = 0 from rfl] at hx197_0); (try rw [Addr.add_zero'] at hx197_0); replace p197 := yg p197; replace q197 := yg q197; have p198 : 0 ≤ (1 : Int) := (by omega); have q198 : 1 < (t193.length : Int) := yB (by first | (with_reducible assumption) | assumption); obtain ⟨ad198, e198, hx198_0⟩ := Kd.at_int (yM HO195.out).2.2 1 p198 q198; obtain rfl : ad197 = ad198 := (by injection e198); (try simp only [show (1 : Int).toNat = 1 from rfl, Nat.reduceMul, Nat.reduceEqDiff, Go.Addr.add, ↓reduceIte] at hx198_0); have qi198 : (1 < t193.length) = True := yg (by omega); (try rw [show ((1 : Int)).toNat = 1 from rfl] at hx198_0); replace p198 := yg p198; replace q198 := yg q198))
       go_ret
       exact ⟨by first | rfl | (simp [errW_none, errW_some] <;> rfl) | (simp [*, errW_none, errW_some] <;> rfl), by repeat (first | (with_reducible first | exact HB.out | apply zJ | apply zD | apply zE) | exact HB.out)⟩
      ·rw [if_neg c6] at H
       exact absurd H (by simp)
     ·rw [if_neg c5] at H
      have c5b0 : ((rd t193 0) == 3) = false := beq_eq_false_iff_ne.mpr c5
      have c5b1 : ((rd t193 0) != 3) = true := bne_iff_ne.mpr c5
      obtain rfl := yY H
      go_enter Try.func13, Try.ntmps13
      go_wp2_with (first | ((with_reducible refine gate_dst (N := 4) rfl ?_); refine Kd.R_lit (Kd.int .i64) _ 2 ?hg (N := 4) ?hd (xs := ([256, 0] : List Int)) (inner := [.int .i64 256, .int .i64 0]) (ok := fun _ => True) (okp := fun _ => True) ?hr ?hp (fun _ hk => hk) trivial (Below.refl _ _) (yN _) (by simp) ?_; (case hd => rfl); (case hg => rfl); (case hr => first | (go_simp; done) | (go_simp; rfl)); (case hp => exact (Reps.one (show Kd.M (Kd.int .i64) _ _ _ 256 [.int .i64 256] from rfl) (Reps.one (show Kd.M (Kd.int .i64) _ _ _ 0 [.int .i64 0] from rfl) (Reps.none _ _)))); intro v191 w12 ho13 hb hg_ hnew_; clear hg_ hnew_; (first | rw [← Ny190.out] at ho13 | (simp only [Int.reduceToNat] at ho13; rw [← Ny190.out] at ho13)); have n0_ := zK (Kd.R_lower ho13 (yK (by repeat (first | (with_reducible first | exact HB.out | apply zJ | apply zD | apply zE) | exact HB.out)))); have n1_ := zK (yL (by repeat (first | (with_reducible first | exact HB.out | apply zJ | apply zD | apply zE) | exact HB.out)) hb); clear HB; have HO192 := n0_; have HB := n1_; clear n0_ n1_ hb ho13; obtain ⟨Ao14, co14, eo14⟩ := Kd.R_slice HO192.out; subst eo14) | ((with_reducible refine gate_callee (f := 19) rfl ?_); refine goesL_ (some 6) rfl rfl Try.func19 (by kernel_rfl) rfl #[.slice Ao14 y190.length co14, .slice none 0 0, .agg #[.int .i64 1, .int .i64 1, .int .i64 0, .int .i64 65536, .int .i64 2, .slice none 0 0]] rfl (by (try simp only [yH, yI, yJ]); first | done | rfl | (simp only [yG, yF]; rfl)) ?_; (refine (dist_Weights.calls k _ _ y190 _ _ ([] : List Bool) 1 1 0 65536 2 _ _ ([] : List (S46)) t193 t196 _ ?side1 ?side2 ?side3 ?side4 ?side5 ?side6 A1.out).mono ?_); (case side1 => repeat (first | exact (yM HO192.out).2.2 | (with_reducible refine yS ?_ _) | (with_reducible refine yT ?_ _) | (with_reducible refine yU ?_))); (case side2 => exact (yM HO192.out).2.1); (case side3 => exact Kd.C_nil _ _); (case side4 => exact yN _); (case side5 => exact Kd.C_nil _ _); (case side6 => exact yN _); rintro e w15 ⟨v194, rfl, ho0, hb⟩; refine ⟨_, rfl, ?_⟩; have n0_ := zK (Kd.R_elder' (by (with_reducible repeat (first | apply zL | apply zM | apply zN)); exact HO192.out) (Kd.R_base ho0) hb); have n1_ := zK (Kd.R_lower (Kd.R_new' ho0 (Kd.R_lt (by (with_reducible repeat (first | apply zL | apply zM | apply zN)); exact HO192.out))) (yK (by repeat (first | (with_reducible first | exact HB.out | apply zJ | apply zD | apply zE) | exact HB.out)))); have n2_ := zK (yL (by repeat (first | (with_reducible first | exact HB.out | apply zJ | apply zD | apply zE) | exact HB.out)) hb); clear HO192 HB; have HO192 := n0_; have HO195 := n1_; have HB := n2_; clear n0_ n1_ n2_; (try clear hb); (try clear hb2); (try clear hk); (try clear hi); (try clear ho0); obtain ⟨Ao16, co16, eo16⟩ := Kd.R_slice HO195.out; subst eo16; have p197 : 0 ≤ (0 : Int) := (by omega); have q197 : 0 < (t193.length : Int) := yB (by first | (with_reducible assumption) | assumption); obtain ⟨ad197, e197, hx197_0⟩ := Kd.at_int (yM HO195.out).2.2 0 p197 q197; cases e197; have qi197 : (0 < t193.length) = True := yg (by omega); (try rw [show ((0 : Int)).toNat = 0 from rfl] at hx197_0); (try rw [Addr.add_zero'] at hx197_0); replace p197 := yg p197; replace q197 := yg q197))
      go_ret
      exact ⟨by first | rfl | (simp [errW_none, errW_some] <;> rfl) | (simp [*, errW_none, errW_some] <;> rfl), by repeat (first | (with_reducible first | exact HB.out | apply zJ | apply zD | apply zE) | exact HB.out)⟩
    ·rw [if_neg c4] at H
     exact absurd H (by simp)
   ·rw [if_neg c3] at H
    have c3b0 : ((t193.length : Int) == 2) = false := beq_eq_false_iff_ne.mpr c3
    have c3b1 : ((t193.length : Int) != 2) = true := bne_iff_ne.mpr c3
    obtain rfl := yY H
    go_enter Try.func13, Try.ntmps13
    go_wp2_with (first | ((with_reducible refine gate_dst (N := 4) rfl ?_); refine Kd.R_lit (Kd.int .i64) _ 2 ?hg (N := 4) ?hd (xs := ([256, 0] : List Int)) (inner := [.int .i64 256, .int .i64 0]) (ok := fun _ => True) (okp := fun _ => True) ?hr ?hp (fun _ hk => hk) trivial (Below.refl _ _) (yN _) (by simp) ?_; (case hd => rfl); (case hg => rfl); (case hr => first | (go_simp; done) | (go_simp; rfl)); (case hp => exact (Reps.one (show Kd.M (Kd.int .i64) _ _ _ 256 [.int .i64 256] from rfl) (Reps.one (show Kd.M (Kd.int .i64) _ _ _ 0 [.int .i64 0] from rfl) (Reps.none _ _)))); intro v191 w17 ho18 hb hg_ hnew_; clear hg_ hnew_; (first | rw [← Ny190.out] at ho18 | (simp only [Int.reduceToNat] at ho18; rw [← Ny190.out] at ho18)); have n0_ := zK (Kd.R_lower ho18 (yK (by repeat (first | (with_reducible first | exact HB.out | apply zJ | apply zD | apply zE) | exact HB.out)))); have n1_ := zK (yL (by repeat (first | (with_reducible first | exact HB.out | apply zJ | apply zD | apply zE) | exact HB.out)) hb); clear HB; have HO192 := n0_; have HB := n1_; clear n0_ n1_ hb ho18; obtain ⟨Ao19, co19, eo19⟩ := Kd.R_slice HO192.out; subst eo19) | ((with_reducible refine gate_callee (f := 19) rfl ?_); refine goesL_ (some 6) rfl rfl Try.func19 (by kernel_rfl) rfl #[.slice Ao19 y190.length co19, .slice none 0 0, .agg #[.int .i64 1, .int .i64 1, .int .i64 0, .int .i64 65536, .int .i64 2, .slice none 0 0]] rfl (by (try simp only [yH, yI, yJ]); first | done | rfl | (simp only [yG, yF]; rfl)) ?_; (refine (dist_Weights.calls k _ _ y190 _ _ ([] : List Bool) 1 1 0 65536 2 _ _ ([] : List (S46)) t193 t196 _ ?side1 ?side2 ?side3 ?side4 ?side5 ?side6 A1.out).mono ?_); (case side1 => repeat (first | exact (yM HO192.out).2.2 | (with_reducible refine yS ?_ _) | (with_reducible refine yT ?_ _) | (with_reducible refine yU ?_))); (case side2 => exact (yM HO192.out).2.1); (case side3 => exact Kd.C_nil _ _); (case side4 => exact yN _); (case side5 => exact Kd.C_nil _ _); (case side6 => exact yN _); rintro e w20 ⟨v194, rfl, ho0, hb⟩; refine ⟨_, rfl, ?_⟩; have n0_ := zK (Kd.R_elder' (by (with_reducible repeat (first | apply zL | apply zM | apply zN)); exact HO192.out) (Kd.R_base ho0) hb); have n1_ := zK (Kd.R_lower (Kd.R_new' ho0 (Kd.R_lt (by (with_reducible repeat (first | apply zL | apply zM | apply zN)); exact HO192.out))) (yK (by repeat (first | (with_reducible first | exact HB.out | apply zJ | apply zD | apply zE) | exact HB.out)))); have n2_ := zK (yL (by repeat (first | (with_reducible first | exact HB.out | apply zJ | apply zD | apply zE) | exact HB.out)) hb); clear HO192 HB; have HO192 := n0_; have HO195 := n1_; have HB := n2_; clear n0_ n1_ n2_; (try clear hb); (try clear hb2); (try clear hk); (try clear hi); (try clear ho0); obtain ⟨Ao21, co21, eo21⟩ := Kd.R_slice HO195.out; subst eo21))
    go_ret
    exact ⟨by first | rfl | (simp [errW_none, errW_some] <;> rfl) | (simp [*, errW_none, errW_some] <;> rfl), by repeat (first | (with_reducible first | exact HB.out | apply zJ | apply zD | apply zE) | exact HB.out)⟩
  ·rw [if_neg c2] at H
   have c2b0 : (t196 == 0) = false := beq_eq_false_iff_ne.mpr c2
   have c2b1 : (t196 != 0) = true := bne_iff_ne.mpr c2
   obtain rfl := yY H
   go_enter Try.func13, Try.ntmps13
   go_wp2_with (first | ((with_reducible refine gate_dst (N := 4) rfl ?_); refine Kd.R_lit (Kd.int .i64) _ 2 ?hg (N := 4) ?hd (xs := ([256, 0] : List Int)) (inner := [.int .i64 256, .int .i64 0]) (ok := fun _ => True) (okp := fun _ => True) ?hr ?hp (fun _ hk => hk) trivial (Below.refl _ _) (yN _) (by simp) ?_; (case hd => rfl); (case hg => rfl); (case hr => first | (go_simp; done) | (go_simp; rfl)); (case hp => exact (Reps.one (show Kd.M (Kd.int .i64) _ _ _ 256 [.int .i64 256] from rfl) (Reps.one (show Kd.M (Kd.int .i64) _ _ _ 0 [.int .i64 0] from rfl) (Reps.none _ _)))); intro v191 w22 ho23 hb hg_ hnew_; clear hg_ hnew_; (first | rw [← Ny190.out] at ho23 | (simp only [Int.reduceToNat] at ho23; rw [← Ny190.out] at ho23)); have n0_ := zK (Kd.R_lower ho23 (yK (by repeat (first | (with_reducible first | exact HB.out | apply zJ | apply zD | apply zE) | exact HB.out)))); have n1_ := zK (yL (by repeat (first | (with_reducible first | exact HB.out | apply zJ | apply zD | apply zE) | exact HB.out)) hb); clear HB; have HO192 := n0_; have HB := n1_; clear n0_ n1_ hb ho23; obtain ⟨Ao24, co24, eo24⟩ := Kd.R_slice HO192.out; subst eo24) | ((with_reducible refine gate_callee (f := 19) rfl ?_); refine goesL_ (some 6) rfl rfl Try.func19 (by kernel_rfl) rfl #[.slice Ao24 y190.length co24, .slice none 0 0, .agg #[.int .i64 1, .int .i64 1, .int .i64 0, .int .i64 65536, .int .i64 2, .slice none 0 0]] rfl (by (try simp only [yH, yI, yJ]); first | done | rfl | (simp only [yG, yF]; rfl)) ?_; (refine (dist_Weights.calls k _ _ y190 _ _ ([] : List Bool) 1 1 0 65536 2 _ _ ([] : List (S46)) t193 t196 _ ?side1 ?side2 ?side3 ?side4 ?side5 ?side6 A1.out).mono ?_); (case side1 => repeat (first | exact (yM HO192.out).2.2 | (with_reducible refine yS ?_ _) | (with_reducible refine yT ?_ _) | (with_reducible refine yU ?_))); (case side2 => exact (yM HO192.out).2.1); (case side3 => exact Kd.C_nil _ _); (case side4 => exact yN _); (case side5 => exact Kd.C_nil _ _); (case side6 => exact yN _); rintro e w25 ⟨v194, rfl, ho0, hb⟩; refine ⟨_, rfl, ?_⟩; have n0_ := zK (Kd.R_elder' (by (with_reducible repeat (first | apply zL | apply zM | apply zN)); exact HO192.out) (Kd.R_base ho0) hb); have n1_ := zK (Kd.R_lower (Kd.R_new' ho0 (Kd.R_lt (by (with_reducible repeat (first | apply zL | apply zM | apply zN)); exact HO192.out))) (yK (by repeat (first | (with_reducible first | exact HB.out | apply zJ | apply zD | apply zE) | exact HB.out)))); have n2_ := zK (yL (by repeat (first | (with_reducible first | exact HB.out | apply zJ | apply zD | apply zE) | exact HB.out)) hb); clear HO192 HB; have HO192 := n0_; have HO195 := n1_; have HB := n2_; clear n0_ n1_ n2_; (try clear hb); (try clear hb2); (try clear hk); (try clear hi); (try clear ho0)))
   go_ret
   exact ⟨by first | rfl | (simp [errW_none, errW_some] <;> rfl) | (simp [*, errW_none, errW_some] <;> rfl), by repeat (first | (with_reducible first | exact HB.out | apply zJ | apply zD | apply zE) | exact HB.out)⟩

/-! ### r22_Total: function 18 -/
def r22_Total.f (a0_0 : Int) (a0_1 : Int) (a0_2 : Int) (a0_3 : Int) (a0_4 : Int) (l0_5 : List (S74)) : Option (Int) := if a0_4 = 1 then (if 0 ≤ (IntKind.u64.wrap (a0_4)) then (some (shl .i64 1 (IntKind.u64.wrap (a0_4)))) else (none)) else (if a0_4 = 2 then (if 0 ≤ (IntKind.u64.wrap (a0_4)) then (some (shl .i64 1 (IntKind.u64.wrap (a0_4)))) else (none)) else (if a0_4 = 4 then (if 0 ≤ (IntKind.u64.wrap (a0_4)) then (some (shl .i64 1 (IntKind.u64.wrap (a0_4)))) else (none)) else (if a0_4 = 8 then (if 0 ≤ (IntKind.u64.wrap (a0_4)) then (some (shl .i64 1 (IntKind.u64.wrap (a0_4)))) else (none)) else (if a0_4 = 16 then (if 0 ≤ (IntKind.u64.wrap (a0_4)) then (some (shl .i64 1 (IntKind.u64.wrap (a0_4)))) else (none)) else (if a0_4 = 32 then (if 0 ≤ (IntKind.u64.wrap (a0_4)) then (some (shl .i64 1 (IntKind.u64.wrap (a0_4)))) else (none)) else (some 0))))))
set_option maxHeartbeats 8000000 in
set_option maxRecDepth 100000 in
theorem r22_Total.calls (a0_0 : Int) (a0_1 : Int) (a0_2 : Int) (a0_3 : Int) (a0_4 : Int) (A0_5 : Option Addr) (c0_5 : Nat) (l0_5 : List (S74)) (r : Int) (w : World) (hr0_5 : Kd.C k74 w A0_5 l0_5.length l0_5) (hc0_5 : l0_5.length ≤ c0_5) (h : r22_Total.f a0_0 a0_1 a0_2 a0_3 a0_4 l0_5 = some r) :
    Calls Try.prog 18 #[.agg #[.int .i64 a0_0, .int .i64 a0_1, .int .i64 a0_2, .int .i64 a0_3, .int .i64 a0_4, .slice A0_5 l0_5.length c0_5]] w fun e w' => e = .returned (.int .i64 r) ∧ Below w.heap.size w w' := by
  have hu31 := Try.underlying31
  have HR0_5 := zK hr0_5
  have HC0_5 := zK hc0_5
  clear hr0_5 hc0_5
  have HB := zK (Below.refl w.heap.size w)
  have H : (if a0_4 = 1 then (if 0 ≤ (IntKind.u64.wrap (a0_4)) then (some (shl .i64 1 (IntKind.u64.wrap (a0_4)))) else (none)) else (if a0_4 = 2 then (if 0 ≤ (IntKind.u64.wrap (a0_4)) then (some (shl .i64 1 (IntKind.u64.wrap (a0_4)))) else (none)) else (if a0_4 = 4 then (if 0 ≤ (IntKind.u64.wrap (a0_4)) then (some (shl .i64 1 (IntKind.u64.wrap (a0_4)))) else (none)) else (if a0_4 = 8 then (if 0 ≤ (IntKind.u64.wrap (a0_4)) then (some (shl .i64 1 (IntKind.u64.wrap (a0_4)))) else (none)) else (if a0_4 = 16 then (if 0 ≤ (IntKind.u64.wrap (a0_4)) then (some (shl .i64 1 (IntKind.u64.wrap (a0_4)))) else (none)) else (if a0_4 = 32 then (if 0 ≤ (IntKind.u64.wrap (a0_4)) then (some (shl .i64 1 (IntKind.u64.wrap (a0_4)))) else (none)) else (some 0))))))) = some r := h
  clear h
  by_cases c2 : a0_4 = 1
  ·rw [if_pos c2] at H
   have c2b0 : (a0_4 == 1) = true := beq_iff_eq.mpr c2
   have c2b1 : (a0_4 != 1) = false := bne_eq_false_iff_eq.mpr c2
   clear c2
   obtain ⟨ji3, hji3⟩ : ∃ j_ : Int, (IntKind.u64.wrap (a0_4)) = j_ := ⟨_, rfl⟩
   replace H : (if 0 ≤ (ji3) then (some (shl .i64 1 (ji3))) else (none)) = some r := by first | (rw [hji3] at H; exact H) | (simp only [hji3] at H ⊢; exact H)
   by_cases c4 : 0 ≤ (ji3)
   ·rw [if_pos c4] at H
    have c4b0 := yg c4
    have c4b1 : decide (0 ≤ (ji3)) = true := yC c4
    clear c4
    obtain ⟨ji5, hji5⟩ : ∃ j_ : Int, (shl .i64 1 (ji3)) = j_ := ⟨_, rfl⟩
    replace H : (some ji5) = some r := by first | (rw [hji5] at H; exact H) | (simp only [hji5] at H ⊢; exact H)
    have hji5_ : (IntKind.i64.wrap (1 * 2 ^ min (ji3).toNat 64)) = ji5 := hji5
    have hji5z : (ji3) ≤ 64 → (IntKind.i64.wrap (1 * 2 ^ (ji3).toNat)) = ji5 := shl_small hji5
    have hji5u : (IntKind.i64.wrap (2 ^ min (ji3).toNat 64)) = ji5 := by have h_ := hji5_; rw [Int.one_mul] at h_; exact h_
    have hji5v : (ji3) ≤ 64 → (IntKind.i64.wrap (2 ^ (ji3).toNat)) = ji5 := fun hle_ => by have h_ := hji5z hle_; rw [Int.one_mul] at h_; exact h_
    have hji5y : (wrap64 (1 * 2 ^ min (ji3).toNat 64)) = ji5 := (i64_w _).symm.trans hji5_
    have hji5x : (ji3) ≤ 64 → (wrap64 (1 * 2 ^ (ji3).toNat)) = ji5 := fun h_ => (i64_w _).symm.trans (hji5z h_)
    obtain rfl := yY H
    go_enter Try.func18, Try.ntmps18
    go_wp2_with (first | ((with_reducible refine gate_dst (N := 1) rfl ?_); refine box_event ?hg (N := 1) ?hd (cs := #[.int .i64 a0_0, .int .i64 a0_1, .int .i64 a0_2, .int .i64 a0_3, .int .i64 a0_4, .slice A0_5 l0_5.length c0_5]) (t := 31) ?hr ?_; (case hd => rfl); (case hg => rfl); (case hr => first | (go_simp; done) | (go_simp; rfl)); intro Z3 hg w6 hbox hb; have n0_ := zK (yL (by repeat (first | (with_reducible first | exact HB.out | apply zJ | apply zD | apply zE) | exact HB.out)) hb); have n1_ := zK (hbox); have n2_ := zK ((by rw [hg]; exact (yK (by repeat (first | (with_reducible first | exact HB.out | apply zJ | apply zD | apply zE) | exact HB.out))) : w.heap.size ≤ Z3)); have n3_ := zK ((by rw [hg]; exact (yK (by repeat (first | (with_reducible first | exact HB.out | apply zJ | apply zD | apply zE) | exact HB.out))) : w.heap.size ≤ Z3)); clear HB; have HB := n0_; have Z0 := n1_; have Z2 := n2_; have Z1 := n3_; clear n0_ n1_ n2_ n3_ hb hbox hg; have hcz7_0 : w6.cell? ⟨Z3, 0, none⟩ = some (.int .i64 a0_0) := (zO Z0.out 0).trans rfl; have hcz7_1 : w6.cell? ⟨Z3, 1, none⟩ = some (.int .i64 a0_1) := (zO Z0.out 1).trans rfl; have hcz7_2 : w6.cell? ⟨Z3, 2, none⟩ = some (.int .i64 a0_2) := (zO Z0.out 2).trans rfl; have hcz7_3 : w6.cell? ⟨Z3, 3, none⟩ = some (.int .i64 a0_3) := (zO Z0.out 3).trans rfl; have hcz7_4 : w6.cell? ⟨Z3, 4, none⟩ = some (.int .i64 a0_4) := (zO Z0.out 4).trans rfl; have hcz7_5 : w6.cell? ⟨Z3, 5, none⟩ = some (.slice A0_5 l0_5.length c0_5) := (zO Z0.out 5).trans rfl; have hfz7_0 := yE Z0.out 0; have hfz7_1 := yE Z0.out 1; have hfz7_2 := yE Z0.out 2; have hfz7_3 := yE Z0.out 3; have hfz7_4 := yE Z0.out 4; have hfz7_5 := yE Z0.out 5))
    go_ret
    exact ⟨by first | rfl | (simp [errW_none, errW_some] <;> rfl) | (simp only [← hji3, ← hji5]; first | rfl | (simp [errW_none, errW_some] <;> rfl)) | (simp [*, errW_none, errW_some] <;> rfl), by repeat (first | (with_reducible first | exact HB.out | apply zJ | apply zD | apply zE | refine zI ?_ Z1.out) | exact HB.out)⟩
   ·rw [if_neg c4] at H
    exact absurd H (by simp)
  ·rw [if_neg c2] at H
   have c2b0 : (a0_4 == 1) = false := beq_eq_false_iff_ne.mpr c2
   have c2b1 : (a0_4 != 1) = true := bne_iff_ne.mpr c2
   by_cases c8 : a0_4 = 2
   ·rw [if_pos c8] at H
    have c8b0 : (a0_4 == 2) = true := beq_iff_eq.mpr c8
    have c8b1 : (a0_4 != 2) = false := bne_eq_false_iff_eq.mpr c8
    clear c8
    obtain ⟨ji9, hji9⟩ : ∃ j_ : Int, (IntKind.u64.wrap (a0_4)) = j_ := ⟨_, rfl⟩
    replace H : (if 0 ≤ (ji9) then (some (shl .i64 1 (ji9))) else (none)) = some r := by first | (rw [hji9] at H; exact H) | (simp only [hji9] at H ⊢; exact H)
    by_cases c10 : 0 ≤ (ji9)
    ·rw [if_pos c10] at H
     have c10b0 := yg c10
     have c10b1 : decide (0 ≤ (ji9)) = true := yC c10
     clear c10
     obtain ⟨ji11, hji11⟩ : ∃ j_ : Int, (shl .i64 1 (ji9)) = j_ := ⟨_, rfl⟩
     replace H : (some ji11) = some r := by first | (rw [hji11] at H; exact H) | (simp only [hji11] at H ⊢; exact H)
     have hji11_ : (IntKind.i64.wrap (1 * 2 ^ min (ji9).toNat 64)) = ji11 := hji11
     have hji11z : (ji9) ≤ 64 → (IntKind.i64.wrap (1 * 2 ^ (ji9).toNat)) = ji11 := shl_small hji11
     have hji11u : (IntKind.i64.wrap (2 ^ min (ji9).toNat 64)) = ji11 := by have h_ := hji11_; rw [Int.one_mul] at h_; exact h_
     have hji11v : (ji9) ≤ 64 → (IntKind.i64.wrap (2 ^ (ji9).toNat)) = ji11 := fun hle_ => by have h_ := hji11z hle_; rw [Int.one_mul] at h_; exact h_
     have hji11y : (wrap64 (1 * 2 ^ min (ji9).toNat 64)) = ji11 := (i64_w _).symm.trans hji11_
     have hji11x : (ji9) ≤ 64 → (wrap64 (1 * 2 ^ (ji9).toNat)) = ji11 := fun h_ => (i64_w _).symm.trans (hji11z h_)
     obtain rfl := yY H
     go_enter Try.func18, Try.ntmps18
     go_wp2_with (first | ((with_reducible refine gate_dst (N := 1) rfl ?_); refine box_event ?hg (N := 1) ?hd (cs := #[.int .i64 a0_0, .int .i64 a0_1, .int .i64 a0_2, .int .i64 a0_3, .int .i64 a0_4, .slice A0_5 l0_5.length c0_5]) (t := 31) ?hr ?_; (case hd => rfl); (case hg => rfl); (case hr => first | (go_simp; done) | (go_simp; rfl)); intro Z3 hg w12 hbox hb; have n0_ := zK (yL (by repeat (first | (with_reducible first | exact HB.out | apply zJ | apply zD | apply zE) | exact HB.out)) hb); have n1_ := zK (hbox); have n2_ := zK ((by rw [hg]; exact (yK (by repeat (first | (with_reducible first | exact HB.out | apply zJ | apply zD | apply zE) | exact HB.out))) : w.heap.size ≤ Z3)); have n3_ := zK ((by rw [hg]; exact (yK (by repeat (first | (with_reducible first | exact HB.out | apply zJ | apply zD | apply zE) | exact HB.out))) : w.heap.size ≤ Z3)); clear HB; have HB := n0_; have Z0 := n1_; have Z2 := n2_; have Z1 := n3_; clear n0_ n1_ n2_ n3_ hb hbox hg; have hcz13_0 : w12.cell? ⟨Z3, 0, none⟩ = some (.int .i64 a0_0) := (zO Z0.out 0).trans rfl; have hcz13_1 : w12.cell? ⟨Z3, 1, none⟩ = some (.int .i64 a0_1) := (zO Z0.out 1).trans rfl; have hcz13_2 : w12.cell? ⟨Z3, 2, none⟩ = some (.int .i64 a0_2) := (zO Z0.out 2).trans rfl; have hcz13_3 : w12.cell? ⟨Z3, 3, none⟩ = some (.int .i64 a0_3) := (zO Z0.out 3).trans rfl; have hcz13_4 : w12.cell? ⟨Z3, 4, none⟩ = some (.int .i64 a0_4) := (zO Z0.out 4).trans rfl; have hcz13_5 : w12.cell? ⟨Z3, 5, none⟩ = some (.slice A0_5 l0_5.length c0_5) := (zO Z0.out 5).trans rfl; have hfz13_0 := yE Z0.out 0; have hfz13_1 := yE Z0.out 1; have hfz13_2 := yE Z0.out 2; have hfz13_3 := yE Z0.out 3; have hfz13_4 := yE Z0.out 4; have hfz13_5 := yE Z0.out 5))
     go_ret
     exact ⟨by first | rfl | (simp [errW_none, errW_some] <;> rfl) | (simp only [← hji9, ← hji11]; first | rfl | (simp [errW_none, errW_some] <;> rfl)) | (simp [*, errW_none, errW_some] <;> rfl), by repeat (first | (with_reducible first | exact HB.out | apply zJ | apply zD | apply zE | refine zI ?_ Z1.out) | exact HB.out)⟩
    ·rw [if_neg c10] at H
     exact absurd H (by simp)
   ·rw [if_neg c8] at H
    have c8b0 : (a0_4 == 2) = false := beq_eq_false_iff_ne.mpr c8
    have c8b1 : (a0_4 != 2) = true := bne_iff_ne.mpr c8
    by_cases c14 : a0_4 = 4
    ·rw [if_pos c14] at H
     have c14b0 : (a0_4 == 4) = true := beq_iff_eq.mpr c14
     have c14b1 : (a0_4 != 4) = false := bne_eq_false_iff_eq.mpr c14
     clear c14
     obtain ⟨ji15, hji15⟩ : ∃ j_ : Int, (IntKind.u64.wrap (a0_4)) = j_ := ⟨_, rfl⟩
     replace H : (if 0 ≤ (ji15) then (some (shl .i64 1 (ji15))) else (none)) = some r := by first | (rw [hji15] at H; exact H) | (simp only [hji15] at H ⊢; exact H)
     by_cases c16 : 0 ≤ (ji15)
     ·rw [if_pos c16] at H
      have c16b0 := yg c16
      have c16b1 : decide (0 ≤ (ji15)) = true := yC c16
      clear c16
      obtain ⟨ji17, hji17⟩ : ∃ j_ : Int, (shl .i64 1 (ji15)) = j_ := ⟨_, rfl⟩
      replace H : (some ji17) = some r := by first | (rw [hji17] at H; exact H) | (simp only [hji17] at H ⊢; exact H)
      have hji17_ : (IntKind.i64.wrap (1 * 2 ^ min (ji15).toNat 64)) = ji17 := hji17
      have hji17z : (ji15) ≤ 64 → (IntKind.i64.wrap (1 * 2 ^ (ji15).toNat)) = ji17 := shl_small hji17
      have hji17u : (IntKind.i64.wrap (2 ^ min (ji15).toNat 64)) = ji17 := by have h_ := hji17_; rw [Int.one_mul] at h_; exact h_
      have hji17v : (ji15) ≤ 64 → (IntKind.i64.wrap (2 ^ (ji15).toNat)) = ji17 := fun hle_ => by have h_ := hji17z hle_; rw [Int.one_mul] at h_; exact h_
      have hji17y : (wrap64 (1 * 2 ^ min (ji15).toNat 64)) = ji17 := (i64_w _).symm.trans hji17_
      have hji17x : (ji15) ≤ 64 → (wrap64 (1 * 2 ^ (ji15).toNat)) = ji17 := fun h_ => (i64_w _).symm.trans (hji17z h_)
      obtain rfl := yY H
      go_enter Try.func18, Try.ntmps18
      go_wp2_with (first | ((with_reducible refine gate_dst (N := 1) rfl ?_); refine box_event ?hg (N := 1) ?hd (cs := #[.int .i64 a0_0, .int .i64 a0_1, .int .i64 a0_2, .int .i64 a0_3, .int .i64 a0_4, .slice A0_5 l0_5.length c0_5]) (t := 31) ?hr ?_; (case hd => rfl); (case hg => rfl); (case hr => first | (go_simp; done) | (go_simp; rfl)); intro Z3 hg w18 hbox hb; have n0_ := zK (yL (by repeat (first | (with_reducible first | exact HB.out | apply zJ | apply zD | apply zE) | exact HB.out)) hb); have n1_ := zK (hbox); have n2_ := zK ((by rw [hg]; exact (yK (by repeat (first | (with_reducible first | exact HB.out | apply zJ | apply zD | apply zE) | exact HB.out))) : w.heap.size ≤ Z3)); have n3_ := zK ((by rw [hg]; exact (yK (by repeat (first | (with_reducible first | exact HB.out | apply zJ | apply zD | apply zE) | exact HB.out))) : w.heap.size ≤ Z3)); clear HB; have HB := n0_; have Z0 := n1_; have Z2 := n2_; have Z1 := n3_; clear n0_ n1_ n2_ n3_ hb hbox hg; have hcz19_0 : w18.cell? ⟨Z3, 0, none⟩ = some (.int .i64 a0_0) := (zO Z0.out 0).trans rfl; have hcz19_1 : w18.cell? ⟨Z3, 1, none⟩ = some (.int .i64 a0_1) := (zO Z0.out 1).trans rfl; have hcz19_2 : w18.cell? ⟨Z3, 2, none⟩ = some (.int .i64 a0_2) := (zO Z0.out 2).trans rfl; have hcz19_3 : w18.cell? ⟨Z3, 3, none⟩ = some (.int .i64 a0_3) := (zO Z0.out 3).trans rfl; have hcz19_4 : w18.cell? ⟨Z3, 4, none⟩ = some (.int .i64 a0_4) := (zO Z0.out 4).trans rfl; have hcz19_5 : w18.cell? ⟨Z3, 5, none⟩ = some (.slice A0_5 l0_5.length c0_5) := (zO Z0.out 5).trans rfl; have hfz19_0 := yE Z0.out 0; have hfz19_1 := yE Z0.out 1; have hfz19_2 := yE Z0.out 2; have hfz19_3 := yE Z0.out 3; have hfz19_4 := yE Z0.out 4; have hfz19_5 := yE Z0.out 5))
      go_ret
      exact ⟨by first | rfl | (simp [errW_none, errW_some] <;> rfl) | (simp only [← hji15, ← hji17]; first | rfl | (simp [errW_none, errW_some] <;> rfl)) | (simp [*, errW_none, errW_some] <;> rfl), by repeat (first | (with_reducible first | exact HB.out | apply zJ | apply zD | apply zE | refine zI ?_ Z1.out) | exact HB.out)⟩
     ·rw [if_neg c16] at H
      exact absurd H (by simp)
    ·rw [if_neg c14] at H
     have c14b0 : (a0_4 == 4) = false := beq_eq_false_iff_ne.mpr c14
     have c14b1 : (a0_4 != 4) = true := bne_iff_ne.mpr c14
     by_cases c20 : a0_4 = 8
     ·rw [if_pos c20] at H
      have c20b0 : (a0_4 == 8) = true := beq_iff_eq.mpr c20
      have c20b1 : (a0_4 != 8) = false := bne_eq_false_iff_eq.mpr c20
      clear c20
      obtain ⟨ji21, hji21⟩ : ∃ j_ : Int, (IntKind.u64.wrap (a0_4)) = j_ := ⟨_, rfl⟩
      replace H : (if 0 ≤ (ji21) then (some (shl .i64 1 (ji21))) else (none)) = some r := by first | (rw [hji21] at H; exact H) | (simp only [hji21] at H ⊢; exact H)
      by_cases c22 : 0 ≤ (ji21)
      ·rw [if_pos c22] at H
       have c22b0 := yg c22
       have c22b1 : decide (0 ≤ (ji21)) = true := yC c22
       clear c22
       obtain ⟨ji23, hji23⟩ : ∃ j_ : Int, (shl .i64 1 (ji21)) = j_ := ⟨_, rfl⟩
       replace H : (some ji23) = some r := by first | (rw [hji23] at H; exact H) | (simp only [hji23] at H ⊢; exact H)
       have hji23_ : (IntKind.i64.wrap (1 * 2 ^ min (ji21).toNat 64)) = ji23 := hji23
       have hji23z : (ji21) ≤ 64 → (IntKind.i64.wrap (1 * 2 ^ (ji21).toNat)) = ji23 := shl_small hji23
       have hji23u : (IntKind.i64.wrap (2 ^ min (ji21).toNat 64)) = ji23 := by have h_ := hji23_; rw [Int.one_mul] at h_; exact h_
       have hji23v : (ji21) ≤ 64 → (IntKind.i64.wrap (2 ^ (ji21).toNat)) = ji23 := fun hle_ => by have h_ := hji23z hle_; rw [Int.one_mul] at h_; exact h_
       have hji23y : (wrap64 (1 * 2 ^ min (ji21).toNat 64)) = ji23 := (i64_w _).symm.trans hji23_
       have hji23x : (ji21) ≤ 64 → (wrap64 (1 * 2 ^ (ji21).toNat)) = ji23 := fun h_ => (i64_w _).symm.trans (hji23z h_)
       obtain rfl := yY H
       go_enter Try.func18, Try.ntmps18
       go_wp2_with (first | ((with_reducible refine gate_dst (N := 1) rfl ?_); refine box_event ?hg (N := 1) ?hd (cs := #[.int .i64 a0_0, .int .i64 a0_1, .int .i64 a0_2, .int .i64 a0_3, .int .i64 a0_4, .slice A0_5 l0_5.length c0_5]) (t := 31) ?hr ?_; (case hd => rfl); (case hg => rfl); (case hr => first | (go_simp; done) | (go_simp; rfl)); intro Z3 hg w24 hbox hb; have n0_ := zK (yL (by repeat (first | (with_reducible first | exact HB.out | apply zJ | apply zD | apply zE) | exact HB.out)) hb); have n1_ := zK (hbox); have n2_ := zK ((by rw [hg]; exact (yK (by repeat (first | (with_reducible first | exact HB.out | apply zJ | apply zD | apply zE) | exact HB.out))) : w.heap.size ≤ Z3)); have n3_ := zK ((by rw [hg]; exact (yK (by repeat (first | (with_reducible first | exact HB.out | apply zJ | apply zD | apply zE) | exact HB.out))) : w.heap.size ≤ Z3)); clear HB; have HB := n0_; have Z0 := n1_; have Z2 := n2_; have Z1 := n3_; clear n0_ n1_ n2_ n3_ hb hbox hg; have hcz25_0 : w24.cell? ⟨Z3, 0, none⟩ = some (.int .i64 a0_0) := (zO Z0.out 0).trans rfl; have hcz25_1 : w24.cell? ⟨Z3, 1, none⟩ = some (.int .i64 a0_1) := (zO Z0.out 1).trans rfl; have hcz25_2 : w24.cell? ⟨Z3, 2, none⟩ = some (.int .i64 a0_2) := (zO Z0.out 2).trans rfl; have hcz25_3 : w24.cell? ⟨Z3, 3, none⟩ = some (.int .i64 a0_3) := (zO Z0.out 3).trans rfl; have hcz25_4 : w24.cell? ⟨Z3, 4, none⟩ = some (.int .i64 a0_4) := (zO Z0.out 4).trans rfl; have hcz25_5 : w24.cell? ⟨Z3, 5, none⟩ = some (.slice A0_5 l0_5.length c0_5) := (zO Z0.out 5).trans rfl; have hfz25_0 := yE Z0.out 0; have hfz25_1 := yE Z0.out 1; have hfz25_2 := yE Z0.out 2; have hfz25_3 := yE Z0.out 3; have hfz25_4 := yE Z0.out 4; have hfz25_5 := yE Z0.out 5))
       go_ret
       exact ⟨by first | rfl | (simp [errW_none, errW_some] <;> rfl) | (simp only [← hji21, ← hji23]; first | rfl | (simp [errW_none, errW_some] <;> rfl)) | (simp [*, errW_none, errW_some] <;> rfl), by repeat (first | (with_reducible first | exact HB.out | apply zJ | apply zD | apply zE | refine zI ?_ Z1.out) | exact HB.out)⟩
      ·rw [if_neg c22] at H
       exact absurd H (by simp)
     ·rw [if_neg c20] at H
      have c20b0 : (a0_4 == 8) = false := beq_eq_false_iff_ne.mpr c20
      have c20b1 : (a0_4 != 8) = true := bne_iff_ne.mpr c20
      by_cases c26 : a0_4 = 16
      ·rw [if_pos c26] at H
       have c26b0 : (a0_4 == 16) = true := beq_iff_eq.mpr c26
       have c26b1 : (a0_4 != 16) = false := bne_eq_false_iff_eq.mpr c26
       clear c26
       obtain ⟨ji27, hji27⟩ : ∃ j_ : Int, (IntKind.u64.wrap (a0_4)) = j_ := ⟨_, rfl⟩
       replace H : (if 0 ≤ (ji27) then (some (shl .i64 1 (ji27))) else (none)) = some r := by first | (rw [hji27] at H; exact H) | (simp only [hji27] at H ⊢; exact H)
       by_cases c28 : 0 ≤ (ji27)
       ·rw [if_pos c28] at H
        have c28b0 := yg c28
        have c28b1 : decide (0 ≤ (ji27)) = true := yC c28
        clear c28
        obtain ⟨ji29, hji29⟩ : ∃ j_ : Int, (shl .i64 1 (ji27)) = j_ := ⟨_, rfl⟩
        replace H : (some ji29) = some r := by first | (rw [hji29] at H; exact H) | (simp only [hji29] at H ⊢; exact H)
        have hji29_ : (IntKind.i64.wrap (1 * 2 ^ min (ji27).toNat 64)) = ji29 := hji29
        have hji29z : (ji27) ≤ 64 → (IntKind.i64.wrap (1 * 2 ^ (ji27).toNat)) = ji29 := shl_small hji29
        have hji29u : (IntKind.i64.wrap (2 ^ min (ji27).toNat 64)) = ji29 := by have h_ := hji29_; rw [Int.one_mul] at h_; exact h_
        have hji29v : (ji27) ≤ 64 → (IntKind.i64.wrap (2 ^ (ji27).toNat)) = ji29 := fun hle_ => by have h_ := hji29z hle_; rw [Int.one_mul] at h_; exact h_
        have hji29y : (wrap64 (1 * 2 ^ min (ji27).toNat 64)) = ji29 := (i64_w _).symm.trans hji29_
        have hji29x : (ji27) ≤ 64 → (wrap64 (1 * 2 ^ (ji27).toNat)) = ji29 := fun h_ => (i64_w _).symm.trans (hji29z h_)
        obtain rfl := yY H
        go_enter Try.func18, Try.ntmps18
        go_wp2_with (first | ((with_reducible refine gate_dst (N := 1) rfl ?_); refine box_event ?hg (N := 1) ?hd (cs := #[.int .i64 a0_0, .int .i64 a0_1, .int .i64 a0_2, .int .i64 a0_3, .int .i64 a0_4, .slice A0_5 l0_5.length c0_5]) (t := 31) ?hr ?_; (case hd => rfl); (case hg => rfl); (case hr => first | (go_simp; done) | (go_simp; rfl)); intro Z3 hg w30 hbox hb; have n0_ := zK (yL (by repeat (first | (with_reducible first | exact HB.out | apply zJ | apply zD | apply zE) | exact HB.out)) hb); have n1_ := zK (hbox); have n2_ := zK ((by rw [hg]; exact (yK (by repeat (first | (with_reducible first | exact HB.out | apply zJ | apply zD | apply zE) | exact HB.out))) : w.heap.size ≤ Z3)); have n3_ := zK ((by rw [hg]; exact (yK (by repeat (first | (with_reducible first | exact HB.out | apply zJ | apply zD | apply zE) | exact HB.out))) : w.heap.size ≤ Z3)); clear HB; have HB := n0_; have Z0 := n1_; have Z2 := n2_; have Z1 := n3_; clear n0_ n1_ n2_ n3_ hb hbox hg; have hcz31_0 : w30.cell? ⟨Z3, 0, none⟩ = some (.int .i64 a0_0) := (zO Z0.out 0).trans rfl; have hcz31_1 : w30.cell? ⟨Z3, 1, none⟩ = some (.int .i64 a0_1) := (zO Z0.out 1).trans rfl; have hcz31_2 : w30.cell? ⟨Z3, 2, none⟩ = some (.int .i64 a0_2) := (zO Z0.out 2).trans rfl; have hcz31_3 : w30.cell? ⟨Z3, 3, none⟩ = some (.int .i64 a0_3) := (zO Z0.out 3).trans rfl; have hcz31_4 : w30.cell? ⟨Z3, 4, none⟩ = some (.int .i64 a0_4) := (zO Z0.out 4).trans rfl; have hcz31_5 : w30.cell? ⟨Z3, 5, none⟩ = some (.slice A0_5 l0_5.length c0_5) := (zO Z0.out 5).trans rfl; have hfz31_0 := yE Z0.out 0; have hfz31_1 := yE Z0.out 1; have hfz31_2 := yE Z0.out 2; have hfz31_3 := yE Z0.out 3; have hfz31_4 := yE Z0.out 4; have hfz31_5 := yE Z0.out 5))
        go_ret
        exact ⟨by first | rfl | (simp [errW_none, errW_some] <;> rfl) | (simp only [← hji27, ← hji29]; first | rfl | (simp [errW_none, errW_some] <;> rfl)) | (simp [*, errW_none, errW_some] <;> rfl), by repeat (first | (with_reducible first | exact HB.out | apply zJ | apply zD | apply zE | refine zI ?_ Z1.out) | exact HB.out)⟩
       ·rw [if_neg c28] at H
        exact absurd H (by simp)
      ·rw [if_neg c26] at H
       have c26b0 : (a0_4 == 16) = false := beq_eq_false_iff_ne.mpr c26
       have c26b1 : (a0_4 != 16) = true := bne_iff_ne.mpr c26
       by_cases c32 : a0_4 = 32
       ·rw [if_pos c32] at H
        have c32b0 : (a0_4 == 32) = true := beq_iff_eq.mpr c32
        have c32b1 : (a0_4 != 32) = false := bne_eq_false_iff_eq.mpr c32
        clear c32
        obtain ⟨ji33, hji33⟩ : ∃ j_ : Int, (IntKind.u64.wrap (a0_4)) = j_ := ⟨_, rfl⟩
        replace H : (if 0 ≤ (ji33) then (some (shl .i64 1 (ji33))) else (none)) = some r := by first | (rw [hji33] at H; exact H) | (simp only [hji33] at H ⊢; exact H)
        by_cases c34 : 0 ≤ (ji33)
        ·rw [if_pos c34] at H
         have c34b0 := yg c34
         have c34b1 : decide (0 ≤ (ji33)) = true := yC c34
         clear c34
         obtain ⟨ji35, hji35⟩ : ∃ j_ : Int, (shl .i64 1 (ji33)) = j_ := ⟨_, rfl⟩
         replace H : (some ji35) = some r := by first | (rw [hji35] at H; exact H) | (simp only [hji35] at H ⊢; exact H)
         have hji35_ : (IntKind.i64.wrap (1 * 2 ^ min (ji33).toNat 64)) = ji35 := hji35
         have hji35z : (ji33) ≤ 64 → (IntKind.i64.wrap (1 * 2 ^ (ji33).toNat)) = ji35 := shl_small hji35
         have hji35u : (IntKind.i64.wrap (2 ^ min (ji33).toNat 64)) = ji35 := by have h_ := hji35_; rw [Int.one_mul] at h_; exact h_
         have hji35v : (ji33) ≤ 64 → (IntKind.i64.wrap (2 ^ (ji33).toNat)) = ji35 := fun hle_ => by have h_ := hji35z hle_; rw [Int.one_mul] at h_; exact h_
         have hji35y : (wrap64 (1 * 2 ^ min (ji33).toNat 64)) = ji35 := (i64_w _).symm.trans hji35_
         have hji35x : (ji33) ≤ 64 → (wrap64 (1 * 2 ^ (ji33).toNat)) = ji35 := fun h_ => (i64_w _).symm.trans (hji35z h_)
         obtain rfl := yY H
         go_enter Try.func18, Try.ntmps18
         go_wp2_with (first | ((with_reducible refine gate_dst (N := 1) rfl ?_); refine box_event ?hg (N := 1) ?hd (cs := #[.int .i64 a0_0, .int .i64 a0_1, .int .i64 a0_2, .int .i64 a0_3, .int .i64 a0_4, .slice A0_5 l0_5.length c0_5]) (t := 31) ?hr ?_; (case hd => rfl); (case hg => rfl); (case hr => first | (go_simp; done) | (go_simp; rfl)); intro Z3 hg w36 hbox hb; have n0_ := zK (yL (by repeat (first | (with_reducible first | exact HB.out | apply zJ | apply zD | apply zE) | exact HB.out)) hb); have n1_ := zK (hbox); have n2_ := zK ((by rw [hg]; exact (yK (by repeat (first | (with_reducible first | exact HB.out | apply zJ | apply zD | apply zE) | exact HB.out))) : w.heap.size ≤ Z3)); have n3_ := zK ((by rw [hg]; exact (yK (by repeat (first | (with_reducible first | exact HB.out | apply zJ | apply zD | apply zE) | exact HB.out))) : w.heap.size ≤ Z3)); clear HB; have HB := n0_; have Z0 := n1_; have Z2 := n2_; have Z1 := n3_; clear n0_ n1_ n2_ n3_ hb hbox hg; have hcz37_0 : w36.cell? ⟨Z3, 0, none⟩ = some (.int .i64 a0_0) := (zO Z0.out 0).trans rfl; have hcz37_1 : w36.cell? ⟨Z3, 1, none⟩ = some (.int .i64 a0_1) := (zO Z0.out 1).trans rfl; have hcz37_2 : w36.cell? ⟨Z3, 2, none⟩ = some (.int .i64 a0_2) := (zO Z0.out 2).trans rfl; have hcz37_3 : w36.cell? ⟨Z3, 3, none⟩ = some (.int .i64 a0_3) := (zO Z0.out 3).trans rfl; have hcz37_4 : w36.cell? ⟨Z3, 4, none⟩ = some (.int .i64 a0_4) := (zO Z0.out 4).trans rfl; have hcz37_5 : w36.cell? ⟨Z3, 5, none⟩ = some (.slice A0_5 l0_5.length c0_5) := (zO Z0.out 5).trans rfl; have hfz37_0 := yE Z0.out 0; have hfz37_1 := yE Z0.out 1; have hfz37_2 := yE Z0.out 2; have hfz37_3 := yE Z0.out 3; have hfz37_4 := yE Z0.out 4; have hfz37_5 := yE Z0.out 5))
         go_ret
         exact ⟨by first | rfl | (simp [errW_none, errW_some] <;> rfl) | (simp only [← hji33, ← hji35]; first | rfl | (simp [errW_none, errW_some] <;> rfl)) | (simp [*, errW_none, errW_some] <;> rfl), by repeat (first | (with_reducible first | exact HB.out | apply zJ | apply zD | apply zE | refine zI ?_ Z1.out) | exact HB.out)⟩
        ·rw [if_neg c34] at H
         exact absurd H (by simp)
       ·rw [if_neg c32] at H
        have c32b0 : (a0_4 == 32) = false := beq_eq_false_iff_ne.mpr c32
        have c32b1 : (a0_4 != 32) = true := bne_iff_ne.mpr c32
        obtain rfl := yY H
        go_enter Try.func18, Try.ntmps18
        go_wp2_with (first | ((with_reducible refine gate_dst (N := 1) rfl ?_); refine box_event ?hg (N := 1) ?hd (cs := #[.int .i64 a0_0, .int .i64 a0_1, .int .i64 a0_2, .int .i64 a0_3, .int .i64 a0_4, .slice A0_5 l0_5.length c0_5]) (t := 31) ?hr ?_; (case hd => rfl); (case hg => rfl); (case hr => first | (go_simp; done) | (go_simp; rfl)); intro Z3 hg w38 hbox hb; have n0_ := zK (yL (by repeat (first | (with_reducible first | exact HB.out | apply zJ | apply zD | apply zE) | exact HB.out)) hb); have n1_ := zK (hbox); have n2_ := zK ((by rw [hg]; exact (yK (by repeat (first | (with_reducible first | exact HB.out | apply zJ | apply zD | apply zE) | exact HB.out))) : w.heap.size ≤ Z3)); have n3_ := zK ((by rw [hg]; exact (yK (by repeat (first | (with_reducible first | exact HB.out | apply zJ | apply zD | apply zE) | exact HB.out))) : w.heap.size ≤ Z3)); clear HB; have HB := n0_; have Z0 := n1_; have Z2 := n2_; have Z1 := n3_; clear n0_ n1_ n2_ n3_ hb hbox hg; have hcz39_0 : w38.cell? ⟨Z3, 0, none⟩ = some (.int .i64 a0_0) := (zO Z0.out 0).trans rfl; have hcz39_1 : w38.cell? ⟨Z3, 1, none⟩ = some (.int .i64 a0_1) := (zO Z0.out 1).trans rfl; have hcz39_2 : w38.cell? ⟨Z3, 2, none⟩ = some (.int .i64 a0_2) := (zO Z0.out 2).trans rfl; have hcz39_3 : w38.cell? ⟨Z3, 3, none⟩ = some (.int .i64 a0_3) := (zO Z0.out 3).trans rfl; have hcz39_4 : w38.cell? ⟨Z3, 4, none⟩ = some (.int .i64 a0_4) := (zO Z0.out 4).trans rfl; have hcz39_5 : w38.cell? ⟨Z3, 5, none⟩ = some (.slice A0_5 l0_5.length c0_5) := (zO Z0.out 5).trans rfl; have hfz39_0 := yE Z0.out 0; have hfz39_1 := yE Z0.out 1; have hfz39_2 := yE Z0.out 2; have hfz39_3 := yE Z0.out 3; have hfz39_4 := yE Z0.out 4; have hfz39_5 := yE Z0.out 5))
        go_ret
        exact ⟨by first | rfl | (simp [errW_none, errW_some] <;> rfl) | (simp [*, errW_none, errW_some] <;> rfl), by repeat (first | (with_reducible first | exact HB.out | apply zJ | apply zD | apply zE | refine zI ?_ Z1.out) | exact HB.out)⟩

end Go.Proofs.Ythmckhfjaleomaa.T
