-- Printed by this session's own driver (wip/tools/xprint.py) over the kit's printer; given functions are this session's own.
import Derived.Test.YtjcfhgpaipbedaaA0
import Derived.Test.YtjcfhgpaipbedaaA1
import Derived.Test.YtjcfhgpaipbedaaA3
namespace Go.Proofs.Ytjcfhgpaipbedaa.A
open Go.RowKit Go.Proofs.YtjcfhgpaipbedaaW.PrintWords Go.Proofs.YtjcfhgpaipbedaaW.PrintLast Go.Proofs.YtjcfhgpaipbedaaW.PrintMore
attribute [local go_sem] max2_int min2_int max_two min_two max_three min_three max_four min_four   -- for this text's walks alone
set_option linter.unusedVariables false
set_option linter.unusedSimpArgs false

/-! ### w12_awake: function 10 -/
def w12_awake.f (k : Nat)  : Option (Bool) := (act_Table.f 1).bind fun bt183 => (if bt183.2 = 0 then (if (bt183.1.length : Int) = 256 then ((act_Middle.f k (([64, 0] : List Int)) (([64, 0] : List Int)) (([1, 2] : List Int)) 6 6 0 bt183.1 (([64, 7] : List Int))).bind fun bt199 => (if bt199.2 = 0 then (if (bt199.1.length : Int) = 2 then (if 0 < (bt199.1.length : Int) then (if (rd bt199.1 0) = 64 then (if 1 < (bt199.1.length : Int) then (some ((rd bt199.1 1) == 128)) else (none)) else (some false)) else (none)) else (some false)) else (some false))) else (some false)) else (some false))
theorem w12_awake.mono : ∀ k, LeO (w12_awake.f k ) (w12_awake.f (k + 1) ) := by
 intro  k
 unfold w12_awake.f
 repeat' first
   | (with_reducible exact act_Middle.mono _ _ _ _ _ _ _ _ _)
   | (with_reducible exact yR _)
   | (with_reducible exact yO _)
   | (with_reducible refine yQ ?_ ?_)
   | (with_reducible refine yP ?_ (fun _ => ?_))
   | exact act_Middle.mono _ _ _ _ _ _ _ _ _
   | exact yO _
   | refine yQ ?_ ?_
   | refine yP ?_ (fun _ => ?_)
set_option maxHeartbeats 8000000 in
set_option maxRecDepth 100000 in
theorem w12_awake.calls (k : Nat)  (r : Bool) (w : World) (h : w12_awake.f k  = some r) :
  Calls Try.prog 10 #[] w fun e w' => e = .returned (.bool r) ∧ Below w.heap.size w w' := by
 have hu36 := Try.underlying36
 have HB := zK (Below.refl w.heap.size w)
 have H : ((act_Table.f 1).bind fun bt183 => (if bt183.2 = 0 then (if (bt183.1.length : Int) = 256 then ((act_Middle.f k (([64, 0] : List Int)) (([64, 0] : List Int)) (([1, 2] : List Int)) 6 6 0 bt183.1 (([64, 7] : List Int))).bind fun bt199 => (if bt199.2 = 0 then (if (bt199.1.length : Int) = 2 then (if 0 < (bt199.1.length : Int) then (if (rd bt199.1 0) = 64 then (if 1 < (bt199.1.length : Int) then (some ((rd bt199.1 1) == 128)) else (none)) else (some false)) else (none)) else (some false)) else (some false))) else (some false)) else (some false))) = some r := h
 clear h
 replace H := yA.mp H
 obtain ⟨⟨t183, t184⟩, A10, H⟩ := H
 replace H : (if t184 = 0 then (if (t183.length : Int) = 256 then ((act_Middle.f k (([64, 0] : List Int)) (([64, 0] : List Int)) (([1, 2] : List Int)) 6 6 0 t183 (([64, 7] : List Int))).bind fun bt199 => (if bt199.2 = 0 then (if (bt199.1.length : Int) = 2 then (if 0 < (bt199.1.length : Int) then (if (rd bt199.1 0) = 64 then (if 1 < (bt199.1.length : Int) then (some ((rd bt199.1 1) == 128)) else (none)) else (some false)) else (none)) else (some false)) else (some false))) else (some false)) else (some false)) = some r := H
 have A1 := zK A10
 clear A10
 by_cases c2 : t184 = 0
 ·rw [if_pos c2] at H
  have c2b0 : (t184 == 0) = true := beq_iff_eq.mpr c2
  have c2b1 : (t184 != 0) = false := bne_eq_false_iff_eq.mpr c2
  clear c2
  by_cases c3 : (t183.length : Int) = 256
  ·rw [if_pos c3] at H
   have c3b0 : ((t183.length : Int) == 256) = true := beq_iff_eq.mpr c3
   have c3b1 : ((t183.length : Int) != 256) = false := bne_eq_false_iff_eq.mpr c3
   clear c3
   obtain ⟨y187, hy187⟩ : ∃ y_ : List Int, y_ = (([64, 0] : List Int)) := ⟨_, rfl⟩
   replace H : ((act_Middle.f k y187 (([64, 0] : List Int)) (([1, 2] : List Int)) 6 6 0 t183 (([64, 7] : List Int))).bind fun bt199 => (if bt199.2 = 0 then (if (bt199.1.length : Int) = 2 then (if 0 < (bt199.1.length : Int) then (if (rd bt199.1 0) = 64 then (if 1 < (bt199.1.length : Int) then (some ((rd bt199.1 1) == 128)) else (none)) else (some false)) else (none)) else (some false)) else (some false))) = some r := by first | (rw [hy187]; with_reducible exact H) | (have H2_ := (yV _ _).symm.trans H; rw [hy187]; with_reducible exact H2_) | (have H2_ := (yV _ _).symm.trans H; with_reducible exact H2_) | with_reducible exact H | (rw [hy187]; exact H) | exact H
   have Ny187 := zK hy187
   clear hy187
   obtain ⟨y190, hy190⟩ : ∃ y_ : List Int, y_ = (([64, 0] : List Int)) := ⟨_, rfl⟩
   replace H : ((act_Middle.f k y187 y190 (([1, 2] : List Int)) 6 6 0 t183 (([64, 7] : List Int))).bind fun bt199 => (if bt199.2 = 0 then (if (bt199.1.length : Int) = 2 then (if 0 < (bt199.1.length : Int) then (if (rd bt199.1 0) = 64 then (if 1 < (bt199.1.length : Int) then (some ((rd bt199.1 1) == 128)) else (none)) else (some false)) else (none)) else (some false)) else (some false))) = some r := by first | (rw [hy190]; with_reducible exact H) | (have H2_ := (yV _ _).symm.trans H; rw [hy190]; with_reducible exact H2_) | (have H2_ := (yV _ _).symm.trans H; with_reducible exact H2_) | with_reducible exact H | (rw [hy190]; exact H) | exact H
   have Ny190 := zK hy190
   clear hy190
   obtain ⟨y193, hy193⟩ : ∃ y_ : List Int, y_ = (([1, 2] : List Int)) := ⟨_, rfl⟩
   replace H : ((act_Middle.f k y187 y190 y193 6 6 0 t183 (([64, 7] : List Int))).bind fun bt199 => (if bt199.2 = 0 then (if (bt199.1.length : Int) = 2 then (if 0 < (bt199.1.length : Int) then (if (rd bt199.1 0) = 64 then (if 1 < (bt199.1.length : Int) then (some ((rd bt199.1 1) == 128)) else (none)) else (some false)) else (none)) else (some false)) else (some false))) = some r := by first | (rw [hy193]; with_reducible exact H) | (have H2_ := (yV _ _).symm.trans H; rw [hy193]; with_reducible exact H2_) | (have H2_ := (yV _ _).symm.trans H; with_reducible exact H2_) | with_reducible exact H | (rw [hy193]; exact H) | exact H
   have Ny193 := zK hy193
   clear hy193
   obtain ⟨y196, hy196⟩ : ∃ y_ : List Int, y_ = (([64, 7] : List Int)) := ⟨_, rfl⟩
   replace H : ((act_Middle.f k y187 y190 y193 6 6 0 t183 y196).bind fun bt199 => (if bt199.2 = 0 then (if (bt199.1.length : Int) = 2 then (if 0 < (bt199.1.length : Int) then (if (rd bt199.1 0) = 64 then (if 1 < (bt199.1.length : Int) then (some ((rd bt199.1 1) == 128)) else (none)) else (some false)) else (none)) else (some false)) else (some false))) = some r := by first | (rw [hy196]; with_reducible exact H) | (have H2_ := (yV _ _).symm.trans H; rw [hy196]; with_reducible exact H2_) | (have H2_ := (yV _ _).symm.trans H; with_reducible exact H2_) | with_reducible exact H | (rw [hy196]; exact H) | exact H
   have Ny196 := zK hy196
   clear hy196
   replace H := yA.mp H
   obtain ⟨⟨t199, t202⟩, A40, H⟩ := H
   replace H : (if t202 = 0 then (if (t199.length : Int) = 2 then (if 0 < (t199.length : Int) then (if (rd t199 0) = 64 then (if 1 < (t199.length : Int) then (some ((rd t199 1) == 128)) else (none)) else (some false)) else (none)) else (some false)) else (some false)) = some r := H
   have A4 := zK A40
   clear A40
   by_cases c5 : t202 = 0
   ·rw [if_pos c5] at H
    have c5b0 : (t202 == 0) = true := beq_iff_eq.mpr c5
    have c5b1 : (t202 != 0) = false := bne_eq_false_iff_eq.mpr c5
    clear c5
    by_cases c6 : (t199.length : Int) = 2
    ·rw [if_pos c6] at H
     have c6b0 : ((t199.length : Int) == 2) = true := beq_iff_eq.mpr c6
     have c6b1 : ((t199.length : Int) != 2) = false := bne_eq_false_iff_eq.mpr c6
     clear c6
     by_cases c7 : 0 < (t199.length : Int)
     ·rw [if_pos c7] at H
      have c7b0 : decide (0 < (t199.length : Int)) = true := yC c7
      have c7b1 : decide (0 < t199.length) = true := yC (by omega)
      clear c7
      by_cases c8 : (rd t199 0) = 64
      ·rw [if_pos c8] at H
       have c8b0 : ((rd t199 0) == 64) = true := beq_iff_eq.mpr c8
       have c8b1 : ((rd t199 0) != 64) = false := bne_eq_false_iff_eq.mpr c8
       clear c8
       by_cases c9 : 1 < (t199.length : Int)
       ·rw [if_pos c9] at H
        have c9b0 : decide (1 < (t199.length : Int)) = true := yC c9
        have c9b1 : decide (1 < t199.length) = true := yC (by omega)
        clear c9
        obtain rfl := yY H
        go_enter Try.func10, Try.ntmps10
        go_wp2_with (first | ((with_reducible refine gate_callee (f := 11) rfl ?_); refine goesL_ (some 5) rfl rfl Try.func11 (by kernel_rfl) rfl #[.int .i64 1] rfl (by (try simp only [yH, yI, yJ]); first | done | rfl | (simp only [yG, yF]; rfl)) ?_; (with_reducible refine (act_Table.calls 1 t183 t184 _ A1.out).mono ?_); rintro e w10 ⟨v185, rfl, ho0, hb⟩; refine ⟨_, rfl, ?_⟩; have n0_ := zK (Kd.R_lower ho0 (yK (by repeat (first | (with_reducible first | exact HB.out | apply zJ | apply zD | apply zE) | exact HB.out)))); have n1_ := zK (yL (by repeat (first | (with_reducible first | exact HB.out | apply zJ | apply zD | apply zE) | exact HB.out)) hb); clear HB; have HO186 := n0_; have HB := n1_; clear n0_ n1_; (try clear hb); (try clear hb2); (try clear hk); (try clear hi); (try clear ho0); obtain ⟨Ao11, co11, eo11⟩ := Kd.R_slice HO186.out; subst eo11) | ((with_reducible refine gate_dst (N := 16) rfl ?_); refine Kd.R_lit (Kd.int .i8) _ 30 ?hg (N := 16) ?hd (xs := ([64, 0] : List Int)) (inner := [.int .i8 64, .int .i8 0]) (ok := fun _ => True) (okp := fun _ => True) ?hr ?hp (fun _ hk => hk) trivial (Below.refl _ _) (yN _) (by simp) ?_; (case hd => rfl); (case hg => rfl); (case hr => first | (go_simp; done) | (go_simp; rfl)); (case hp => exact (Reps.one (show Kd.M (Kd.int .i8) _ _ _ 64 [.int .i8 64] from rfl) (Reps.one (show Kd.M (Kd.int .i8) _ _ _ 0 [.int .i8 0] from rfl) (Reps.none _ _)))); intro v188 w12 ho13 hb hg_ hnew_; clear hg_ hnew_; (first | rw [← Ny187.out] at ho13 | (simp only [Int.reduceToNat] at ho13; rw [← Ny187.out] at ho13)); have n0_ := zK (Kd.R_elder' (by (with_reducible repeat (first | apply zL | apply zM | apply zN)); exact HO186.out) (Kd.R_base ho13) hb); have n1_ := zK (Kd.R_lower (Kd.R_new' ho13 (Kd.R_lt (by (with_reducible repeat (first | apply zL | apply zM | apply zN)); exact HO186.out))) (yK (by repeat (first | (with_reducible first | exact HB.out | apply zJ | apply zD | apply zE) | exact HB.out)))); have n2_ := zK (yL (by repeat (first | (with_reducible first | exact HB.out | apply zJ | apply zD | apply zE) | exact HB.out)) hb); clear HO186 HB; have HO186 := n0_; have HO189 := n1_; have HB := n2_; clear n0_ n1_ n2_ hb ho13) | ((with_reducible refine gate_dst (N := 17) rfl ?_); refine Kd.R_lit (Kd.int .i8) _ 30 ?hg (N := 17) ?hd (xs := ([64, 0] : List Int)) (inner := [.int .i8 64, .int .i8 0]) (ok := fun _ => True) (okp := fun _ => True) ?hr ?hp (fun _ hk => hk) trivial (Below.refl _ _) (yN _) (by simp) ?_; (case hd => rfl); (case hg => rfl); (case hr => first | (go_simp; done) | (go_simp; rfl)); (case hp => exact (Reps.one (show Kd.M (Kd.int .i8) _ _ _ 64 [.int .i8 64] from rfl) (Reps.one (show Kd.M (Kd.int .i8) _ _ _ 0 [.int .i8 0] from rfl) (Reps.none _ _)))); intro v191 w14 ho15 hb hg_ hnew_; clear hg_ hnew_; (first | rw [← Ny190.out] at ho15 | (simp only [Int.reduceToNat] at ho15; rw [← Ny190.out] at ho15)); have n0_ := zK (Kd.R_elder' (by (with_reducible repeat (first | apply zL | apply zM | apply zN)); exact HO186.out) (Kd.R_base ho15) hb); have n1_ := zK (Kd.R_elder' (by (with_reducible repeat (first | apply zL | apply zM | apply zN)); exact HO189.out) (Kd.R_base ho15) hb); have n2_ := zK (Kd.R_lower (Kd.R_new' (Kd.R_new' ho15 (Kd.R_lt (by (with_reducible repeat (first | apply zL | apply zM | apply zN)); exact HO186.out))) (Kd.R_lt (by (with_reducible repeat (first | apply zL | apply zM | apply zN)); exact HO189.out))) (yK (by repeat (first | (with_reducible first | exact HB.out | apply zJ | apply zD | apply zE) | exact HB.out)))); have n3_ := zK (yL (by repeat (first | (with_reducible first | exact HB.out | apply zJ | apply zD | apply zE) | exact HB.out)) hb); clear HO186 HO189 HB; have HO186 := n0_; have HO189 := n1_; have HO192 := n2_; have HB := n3_; clear n0_ n1_ n2_ n3_ hb ho15) | ((with_reducible refine gate_dst (N := 18) rfl ?_); refine Kd.R_lit (Kd.int .i8) _ 30 ?hg (N := 18) ?hd (xs := ([1, 2] : List Int)) (inner := [.int .i8 1, .int .i8 2]) (ok := fun _ => True) (okp := fun _ => True) ?hr ?hp (fun _ hk => hk) trivial (Below.refl _ _) (yN _) (by simp) ?_; (case hd => rfl); (case hg => rfl); (case hr => first | (go_simp; done) | (go_simp; rfl)); (case hp => exact (Reps.one (show Kd.M (Kd.int .i8) _ _ _ 1 [.int .i8 1] from rfl) (Reps.one (show Kd.M (Kd.int .i8) _ _ _ 2 [.int .i8 2] from rfl) (Reps.none _ _)))); intro v194 w16 ho17 hb hg_ hnew_; clear hg_ hnew_; (first | rw [← Ny193.out] at ho17 | (simp only [Int.reduceToNat] at ho17; rw [← Ny193.out] at ho17)); have n0_ := zK (Kd.R_elder' (by (with_reducible repeat (first | apply zL | apply zM | apply zN)); exact HO186.out) (Kd.R_base ho17) hb); have n1_ := zK (Kd.R_elder' (by (with_reducible repeat (first | apply zL | apply zM | apply zN)); exact HO189.out) (Kd.R_base ho17) hb); have n2_ := zK (Kd.R_elder' (by (with_reducible repeat (first | apply zL | apply zM | apply zN)); exact HO192.out) (Kd.R_base ho17) hb); have n3_ := zK (Kd.R_lower (Kd.R_new' (Kd.R_new' (Kd.R_new' ho17 (Kd.R_lt (by (with_reducible repeat (first | apply zL | apply zM | apply zN)); exact HO186.out))) (Kd.R_lt (by (with_reducible repeat (first | apply zL | apply zM | apply zN)); exact HO189.out))) (Kd.R_lt (by (with_reducible repeat (first | apply zL | apply zM | apply zN)); exact HO192.out))) (yK (by repeat (first | (with_reducible first | exact HB.out | apply zJ | apply zD | apply zE) | exact HB.out)))); have n4_ := zK (yL (by repeat (first | (with_reducible first | exact HB.out | apply zJ | apply zD | apply zE) | exact HB.out)) hb); clear HO186 HO189 HO192 HB; have HO186 := n0_; have HO189 := n1_; have HO192 := n2_; have HO195 := n3_; have HB := n4_; clear n0_ n1_ n2_ n3_ n4_ hb ho17; obtain ⟨Ao18, co18, eo18⟩ := Kd.R_slice HO195.out; subst eo18; obtain ⟨Ao19, co19, eo19⟩ := Kd.R_slice HO192.out; subst eo19; obtain ⟨Ao20, co20, eo20⟩ := Kd.R_slice HO189.out; subst eo20) | ((with_reducible refine gate_dst (N := 21) rfl ?_); refine Kd.R_lit (Kd.int .i8) _ 30 ?hg (N := 21) ?hd (xs := ([64, 7] : List Int)) (inner := [.int .i8 64, .int .i8 7]) (ok := fun _ => True) (okp := fun _ => True) ?hr ?hp (fun _ hk => hk) trivial (Below.refl _ _) (yN _) (by simp) ?_; (case hd => rfl); (case hg => rfl); (case hr => first | (go_simp; done) | (go_simp; rfl)); (case hp => exact (Reps.one (show Kd.M (Kd.int .i8) _ _ _ 64 [.int .i8 64] from rfl) (Reps.one (show Kd.M (Kd.int .i8) _ _ _ 7 [.int .i8 7] from rfl) (Reps.none _ _)))); intro v197 w21 ho22 hb hg_ hnew_; clear hg_ hnew_; (first | rw [← Ny196.out] at ho22 | (simp only [Int.reduceToNat] at ho22; rw [← Ny196.out] at ho22)); have n0_ := zK (Kd.R_elder' (by (with_reducible repeat (first | apply zL | apply zM | apply zN)); exact HO186.out) (Kd.R_base ho22) hb); have n1_ := zK (Kd.R_elder' (by (with_reducible repeat (first | apply zL | apply zM | apply zN)); exact HO189.out) (Kd.R_base ho22) hb); have n2_ := zK (Kd.R_elder' (by (with_reducible repeat (first | apply zL | apply zM | apply zN)); exact HO192.out) (Kd.R_base ho22) hb); have n3_ := zK (Kd.R_elder' (by (with_reducible repeat (first | apply zL | apply zM | apply zN)); exact HO195.out) (Kd.R_base ho22) hb); have n4_ := zK (Kd.R_lower (Kd.R_new' (Kd.R_new' (Kd.R_new' (Kd.R_new' ho22 (Kd.R_lt (by (with_reducible repeat (first | apply zL | apply zM | apply zN)); exact HO186.out))) (Kd.R_lt (by (with_reducible repeat (first | apply zL | apply zM | apply zN)); exact HO189.out))) (Kd.R_lt (by (with_reducible repeat (first | apply zL | apply zM | apply zN)); exact HO192.out))) (Kd.R_lt (by (with_reducible repeat (first | apply zL | apply zM | apply zN)); exact HO195.out))) (yK (by repeat (first | (with_reducible first | exact HB.out | apply zJ | apply zD | apply zE) | exact HB.out)))); have n5_ := zK (yL (by repeat (first | (with_reducible first | exact HB.out | apply zJ | apply zD | apply zE) | exact HB.out)) hb); clear HO186 HO189 HO192 HO195 HB; have HO186 := n0_; have HO189 := n1_; have HO192 := n2_; have HO195 := n3_; have HO198 := n4_; have HB := n5_; clear n0_ n1_ n2_ n3_ n4_ n5_ hb ho22; obtain ⟨Ao23, co23, eo23⟩ := Kd.R_slice HO198.out; subst eo23) | ((with_reducible refine gate_callee (f := 17) rfl ?_); refine goesL_ (some 22) rfl rfl Try.func17 (by kernel_rfl) rfl #[.agg #[.slice Ao20 y187.length co20, .slice Ao19 y190.length co19, .slice Ao18 y193.length co18, .int .i64 6, .int .i64 6, .int .i64 0], .slice Ao11 t183.length co11, .slice Ao23 y196.length co23] rfl (by (try simp only [yH, yI, yJ]); first | done | rfl | (simp only [yG, yF]; rfl)) ?_; (with_reducible refine (act_Middle.calls k _ _ y187 _ _ y190 _ _ y193 6 6 0 _ _ t183 _ _ y196 t199 t202 _ ?side1 ?side2 ?side3 ?side4 ?side5 ?side6 ?side7 ?side8 ?side9 ?side10 A4.out).mono ?_); (case side1 => repeat (first | exact (yM HO189.out).2.2 | (with_reducible refine yS ?_ _) | (with_reducible refine yT ?_ _) | (with_reducible refine yU ?_))); (case side2 => exact (yM HO189.out).2.1); (case side3 => repeat (first | exact (yM HO192.out).2.2 | (with_reducible refine yS ?_ _) | (with_reducible refine yT ?_ _) | (with_reducible refine yU ?_))); (case side4 => exact (yM HO192.out).2.1); (case side5 => repeat (first | exact (yM HO195.out).2.2 | (with_reducible refine yS ?_ _) | (with_reducible refine yT ?_ _) | (with_reducible refine yU ?_))); (case side6 => exact (yM HO195.out).2.1); (case side7 => repeat (first | exact (yM HO186.out).2.2 | (with_reducible refine yS ?_ _) | (with_reducible refine yT ?_ _) | (with_reducible refine yU ?_))); (case side8 => exact (yM HO186.out).2.1); (case side9 => repeat (first | exact (yM HO198.out).2.2 | (with_reducible refine yS ?_ _) | (with_reducible refine yT ?_ _) | (with_reducible refine yU ?_))); (case side10 => exact (yM HO198.out).2.1); rintro e w24 ⟨v200, rfl, ho0, hb⟩; refine ⟨_, rfl, ?_⟩; have n0_ := zK (yb (by (with_reducible repeat (first | apply zL | apply zM | apply zN)); exact HO186.out) hb); have n1_ := zK (yb (by (with_reducible repeat (first | apply zL | apply zM | apply zN)); exact HO189.out) hb); have n2_ := zK (yb (by (with_reducible repeat (first | apply zL | apply zM | apply zN)); exact HO192.out) hb); have n3_ := zK (yb (by (with_reducible repeat (first | apply zL | apply zM | apply zN)); exact HO195.out) hb); have n4_ := zK (yb (by (with_reducible repeat (first | apply zL | apply zM | apply zN)); exact HO198.out) hb); have n5_ := zK (Kd.R_lower ho0 (yK (by repeat (first | (with_reducible first | exact HB.out | apply zJ | apply zD | apply zE) | exact HB.out)))); have n6_ := zK (yL (by repeat (first | (with_reducible first | exact HB.out | apply zJ | apply zD | apply zE) | exact HB.out)) hb); clear HO186 HO189 HO192 HO195 HO198 HB; have HO186 := n0_; have HO189 := n1_; have HO192 := n2_; have HO195 := n3_; have HO198 := n4_; have HO201 := n5_; have HB := n6_; clear n0_ n1_ n2_ n3_ n4_ n5_ n6_; (try clear hb); (try clear hb2); (try clear hk); (try clear hi); (try clear ho0); obtain ⟨Ao25, co25, eo25⟩ := Kd.R_slice HO201.out; subst eo25; have p203 : 0 ≤ (0 : Int) := (by omega); have q203 : 0 < (t199.length : Int) := yB (by first | (with_reducible assumption) | assumption); obtain ⟨ad203, e203, hx203_0⟩ := Kd.at_int (yM HO201.out).2.2 0 p203 q203; cases e203; have qi203 : (0 < t199.length) = True := yg (by omega); (try rw [show ((0 : Int)).toNat = 0 from rfl] at hx203_0); (try rw [Addr.add_zero'] at hx203_0); replace p203 := yg p203; replace q203 := yg q203; have p204 : 0 ≤ (1 : Int) := (by omega); have q204 : 1 < (t199.length : Int) := yB (by first | (with_reducible assumption) | assumption); obtain ⟨ad204, e204, hx204_0⟩ := Kd.at_int (yM HO201.out).2.2 1 p204 q204; obtain rfl : ad203 = ad204 := (by injection e204); (try simp only [show (1 : Int).toNat = 1 from rfl, Nat.reduceMul, Nat.reduceEqDiff, Go.Addr.add, ↓reduceIte] at hx204_0); have qi204 : (1 < t199.length) = True := yg (by omega); (try rw [show ((1 : Int)).toNat = 1 from rfl] at hx204_0); replace p204 := yg p204; replace q204 := yg q204))
        go_ret
        exact ⟨by first | rfl | (simp [errW_none, errW_some] <;> rfl) | (simp [*, errW_none, errW_some] <;> rfl), by repeat (first | (with_reducible first | exact HB.out | apply zJ | apply zD | apply zE) | exact HB.out)⟩
       ·rw [if_neg c9] at H
        exact absurd H (by simp)
      ·rw [if_neg c8] at H
       have c8b0 : ((rd t199 0) == 64) = false := beq_eq_false_iff_ne.mpr c8
       have c8b1 : ((rd t199 0) != 64) = true := bne_iff_ne.mpr c8
       obtain rfl := yY H
       go_enter Try.func10, Try.ntmps10
       go_wp2_with (first | ((with_reducible refine gate_callee (f := 11) rfl ?_); refine goesL_ (some 5) rfl rfl Try.func11 (by kernel_rfl) rfl #[.int .i64 1] rfl (by (try simp only [yH, yI, yJ]); first | done | rfl | (simp only [yG, yF]; rfl)) ?_; (with_reducible refine (act_Table.calls 1 t183 t184 _ A1.out).mono ?_); rintro e w26 ⟨v185, rfl, ho0, hb⟩; refine ⟨_, rfl, ?_⟩; have n0_ := zK (Kd.R_lower ho0 (yK (by repeat (first | (with_reducible first | exact HB.out | apply zJ | apply zD | apply zE) | exact HB.out)))); have n1_ := zK (yL (by repeat (first | (with_reducible first | exact HB.out | apply zJ | apply zD | apply zE) | exact HB.out)) hb); clear HB; have HO186 := n0_; have HB := n1_; clear n0_ n1_; (try clear hb); (try clear hb2); (try clear hk); (try clear hi); (try clear ho0); obtain ⟨Ao27, co27, eo27⟩ := Kd.R_slice HO186.out; subst eo27) | ((with_reducible refine gate_dst (N := 16) rfl ?_); refine Kd.R_lit (Kd.int .i8) _ 30 ?hg (N := 16) ?hd (xs := ([64, 0] : List Int)) (inner := [.int .i8 64, .int .i8 0]) (ok := fun _ => True) (okp := fun _ => True) ?hr ?hp (fun _ hk => hk) trivial (Below.refl _ _) (yN _) (by simp) ?_; (case hd => rfl); (case hg => rfl); (case hr => first | (go_simp; done) | (go_simp; rfl)); (case hp => exact (Reps.one (show Kd.M (Kd.int .i8) _ _ _ 64 [.int .i8 64] from rfl) (Reps.one (show Kd.M (Kd.int .i8) _ _ _ 0 [.int .i8 0] from rfl) (Reps.none _ _)))); intro v188 w28 ho29 hb hg_ hnew_; clear hg_ hnew_; (first | rw [← Ny187.out] at ho29 | (simp only [Int.reduceToNat] at ho29; rw [← Ny187.out] at ho29)); have n0_ := zK (Kd.R_elder' (by (with_reducible repeat (first | apply zL | apply zM | apply zN)); exact HO186.out) (Kd.R_base ho29) hb); have n1_ := zK (Kd.R_lower (Kd.R_new' ho29 (Kd.R_lt (by (with_reducible repeat (first | apply zL | apply zM | apply zN)); exact HO186.out))) (yK (by repeat (first | (with_reducible first | exact HB.out | apply zJ | apply zD | apply zE) | exact HB.out)))); have n2_ := zK (yL (by repeat (first | (with_reducible first | exact HB.out | apply zJ | apply zD | apply zE) | exact HB.out)) hb); clear HO186 HB; have HO186 := n0_; have HO189 := n1_; have HB := n2_; clear n0_ n1_ n2_ hb ho29) | ((with_reducible refine gate_dst (N := 17) rfl ?_); refine Kd.R_lit (Kd.int .i8) _ 30 ?hg (N := 17) ?hd (xs := ([64, 0] : List Int)) (inner := [.int .i8 64, .int .i8 0]) (ok := fun _ => True) (okp := fun _ => True) ?hr ?hp (fun _ hk => hk) trivial (Below.refl _ _) (yN _) (by simp) ?_; (case hd => rfl); (case hg => rfl); (case hr => first | (go_simp; done) | (go_simp; rfl)); (case hp => exact (Reps.one (show Kd.M (Kd.int .i8) _ _ _ 64 [.int .i8 64] from rfl) (Reps.one (show Kd.M (Kd.int .i8) _ _ _ 0 [.int .i8 0] from rfl) (Reps.none _ _)))); intro v191 w30 ho31 hb hg_ hnew_; clear hg_ hnew_; (first | rw [← Ny190.out] at ho31 | (simp only [Int.reduceToNat] at ho31; rw [← Ny190.out] at ho31)); have n0_ := zK (Kd.R_elder' (by (with_reducible repeat (first | apply zL | apply zM | apply zN)); exact HO186.out) (Kd.R_base ho31) hb); have n1_ := zK (Kd.R_elder' (by (with_reducible repeat (first | apply zL | apply zM | apply zN)); exact HO189.out) (Kd.R_base ho31) hb); have n2_ := zK (Kd.R_lower (Kd.R_new' (Kd.R_new' ho31 (Kd.R_lt (by (with_reducible repeat (first | apply zL | apply zM | apply zN)); exact HO186.out))) (Kd.R_lt (by (with_reducible repeat (first | apply zL | apply zM | apply zN)); exact HO189.out))) (yK (by repeat (first | (with_reducible first | exact HB.out | apply zJ | apply zD | apply zE) | exact HB.out)))); have n3_ := zK (yL (by repeat (first | (with_reducible first | exact HB.out | apply zJ | apply zD | apply zE) | exact HB.out)) hb); clear HO186 HO189 HB; have HO186 := n0_; have HO189 := n1_; have HO192 := n2_; have HB := n3_; clear n0_ n1_ n2_ n3_ hb ho31) | ((with_reducible refine gate_dst (N := 18) rfl ?_); refine Kd.R_lit (Kd.int .i8) _ 30 ?hg (N := 18) ?hd (xs := ([1, 2] : List Int)) (inner := [.int .i8 1, .int .i8 2]) (ok := fun _ => True) (okp := fun _ => True) ?hr ?hp (fun _ hk => hk) trivial (Below.refl _ _) (yN _) (by simp) ?_; (case hd => rfl); (case hg => rfl); (case hr => first | (go_simp; done) | (go_simp; rfl)); (case hp => exact (Reps.one (show Kd.M (Kd.int .i8) _ _ _ 1 [.int .i8 1] from rfl) (Reps.one (show Kd.M (Kd.int .i8) _ _ _ 2 [.int .i8 2] from rfl) (Reps.none _ _)))); intro v194 w32 ho33 hb hg_ hnew_; clear hg_ hnew_; (first | rw [← Ny193.out] at ho33 | (simp only [Int.reduceToNat] at ho33; rw [← Ny193.out] at ho33)); have n0_ := zK (Kd.R_elder' (by (with_reducible repeat (first | apply zL | apply zM | apply zN)); exact HO186.out) (Kd.R_base ho33) hb); have n1_ := zK (Kd.R_elder' (by (with_reducible repeat (first | apply zL | apply zM | apply zN)); exact HO189.out) (Kd.R_base ho33) hb); have n2_ := zK (Kd.R_elder' (by (with_reducible repeat (first | apply zL | apply zM | apply zN)); exact HO192.out) (Kd.R_base ho33) hb); have n3_ := zK (Kd.R_lower (Kd.R_new' (Kd.R_new' (Kd.R_new' ho33 (Kd.R_lt (by (with_reducible repeat (first | apply zL | apply zM | apply zN)); exact HO186.out))) (Kd.R_lt (by (with_reducible repeat (first | apply zL | apply zM | apply zN)); exact HO189.out))) (Kd.R_lt (by (with_reducible repeat (first | apply zL | apply zM | apply zN)); exact HO192.out))) (yK (by repeat (first | (with_reducible first | exact HB.out | apply zJ | apply zD | apply zE) | exact HB.out)))); have n4_ := zK (yL (by repeat (first | (with_reducible first | exact HB.out | apply zJ | apply zD | apply zE) | exact HB.out)) hb); clear HO186 HO189 HO192 HB; have HO186 := n0_; have HO189 := n1_; have HO192 := n2_; have HO195 := n3_; have HB := n4_; clear n0_ n1_ n2_ n3_ n4_ hb ho33; obtain ⟨Ao34, co34, eo34⟩ := Kd.R_slice HO195.out; subst eo34; obtain ⟨Ao35, co35, eo35⟩ := Kd.R_slice HO192.out; subst eo35; obtain ⟨Ao36, co36, eo36⟩ := Kd.R_slice HO189.out; subst eo36) | ((with_reducible refine gate_dst (N := 21) rfl ?_); refine Kd.R_lit (Kd.int .i8) _ 30 ?hg (N := 21) ?hd (xs := ([64, 7] : List Int)) (inner := [.int .i8 64, .int .i8 7]) (ok := fun _ => True) (okp := fun _ => True) ?hr ?hp (fun _ hk => hk) trivial (Below.refl _ _) (yN _) (by simp) ?_; (case hd => rfl); (case hg => rfl); (case hr => first | (go_simp; done) | (go_simp; rfl)); (case hp => exact (Reps.one (show Kd.M (Kd.int .i8) _ _ _ 64 [.int .i8 64] from rfl) (Reps.one (show Kd.M (Kd.int .i8) _ _ _ 7 [.int .i8 7] from rfl) (Reps.none _ _)))); intro v197 w37 ho38 hb hg_ hnew_; clear hg_ hnew_; (first | rw [← Ny196.out] at ho38 | (simp only [Int.reduceToNat] at ho38; rw [← Ny196.out] at ho38)); have n0_ := zK (Kd.R_elder' (by (with_reducible repeat (first | apply zL | apply zM | apply zN)); exact HO186.out) (Kd.R_base ho38) hb); have n1_ := zK (Kd.R_elder' (by (with_reducible repeat (first | apply zL | apply zM | apply zN)); exact HO189.out) (Kd.R_base ho38) hb); have n2_ := zK (Kd.R_elder' (by (with_reducible repeat (first | apply zL | apply zM | apply zN)); exact HO192.out) (Kd.R_base ho38) hb); have n3_ := zK (Kd.R_elder' (by (with_reducible repeat (first | apply zL | apply zM | apply zN)); exact HO195.out) (Kd.R_base ho38) hb); have n4_ := zK (Kd.R_lower (Kd.R_new' (Kd.R_new' (Kd.R_new' (Kd.R_new' ho38 (Kd.R_lt (by (with_reducible repeat (first | apply zL | apply zM | apply zN)); exact HO186.out))) (Kd.R_lt (by (with_reducible repeat (first | apply zL | apply zM | apply zN)); exact HO189.out))) (Kd.R_lt (by (with_reducible repeat (first | apply zL | apply zM | apply zN)); exact HO192.out))) (Kd.R_lt (by (with_reducible repeat (first | apply zL | apply zM | apply zN)); exact HO195.out))) (yK (by repeat (first | (with_reducible first | exact HB.out | apply zJ | apply zD | apply zE) | exact HB.out)))); have n5_ := zK (yL (by repeat (first | (with_reducible first | exact HB.out | apply zJ | apply zD | apply zE) | exact HB.out)) hb); clear HO186 HO189 HO192 HO195 HB; have HO186 := n0_; have HO189 := n1_; have HO192 := n2_; have HO195 := n3_; have HO198 := n4_; have HB := n5_; clear n0_ n1_ n2_ n3_ n4_ n5_ hb ho38; obtain ⟨Ao39, co39, eo39⟩ := Kd.R_slice HO198.out; subst eo39) | ((with_reducible refine gate_callee (f := 17) rfl ?_); refine goesL_ (some 22) rfl rfl Try.func17 (by kernel_rfl) rfl #[.agg #[.slice Ao36 y187.length co36, .slice Ao35 y190.length co35, .slice Ao34 y193.length co34, .int .i64 6, .int .i64 6, .int .i64 0], .slice Ao27 t183.length co27, .slice Ao39 y196.length co39] rfl (by (try simp only [yH, yI, yJ]); first | done | rfl | (simp only [yG, yF]; rfl)) ?_; (with_reducible refine (act_Middle.calls k _ _ y187 _ _ y190 _ _ y193 6 6 0 _ _ t183 _ _ y196 t199 t202 _ ?side1 ?side2 ?side3 ?side4 ?side5 ?side6 ?side7 ?side8 ?side9 ?side10 A4.out).mono ?_); (case side1 => repeat (first | exact (yM HO189.out).2.2 | (with_reducible refine yS ?_ _) | (with_reducible refine yT ?_ _) | (with_reducible refine yU ?_))); (case side2 => exact (yM HO189.out).2.1); (case side3 => repeat (first | exact (yM HO192.out).2.2 | (with_reducible refine yS ?_ _) | (with_reducible refine yT ?_ _) | (with_reducible refine yU ?_))); (case side4 => exact (yM HO192.out).2.1); (case side5 => repeat (first | exact (yM HO195.out).2.2 | (with_reducible refine yS ?_ _) | (with_reducible refine yT ?_ _) | (with_reducible refine yU ?_))); (case side6 => exact (yM HO195.out).2.1); (case side7 => repeat (first | exact (yM HO186.out).2.2 | (with_reducible refine yS ?_ _) | (with_reducible refine yT ?_ _) | (with_reducible refine yU ?_))); (case side8 => exact (yM HO186.out).2.1); (case side9 => repeat (first | exact (yM HO198.out).2.2 | (with_reducible refine yS ?_ _) | (with_reducible refine yT ?_ _) | (with_reducible refine yU ?_))); (case side10 => exact (yM HO198.out).2.1); rintro e w40 ⟨v200, rfl, ho0, hb⟩; refine ⟨_, rfl, ?_⟩; have n0_ := zK (yb (by (with_reducible repeat (first | apply zL | apply zM | apply zN)); exact HO186.out) hb); have n1_ := zK (yb (by (with_reducible repeat (first | apply zL | apply zM | apply zN)); exact HO189.out) hb); have n2_ := zK (yb (by (with_reducible repeat (first | apply zL | apply zM | apply zN)); exact HO192.out) hb); have n3_ := zK (yb (by (with_reducible repeat (first | apply zL | apply zM | apply zN)); exact HO195.out) hb); have n4_ := zK (yb (by (with_reducible repeat (first | apply zL | apply zM | apply zN)); exact HO198.out) hb); have n5_ := zK (Kd.R_lower ho0 (yK (by repeat (first | (with_reducible first | exact HB.out | apply zJ | apply zD | apply zE) | exact HB.out)))); have n6_ := zK (yL (by repeat (first | (with_reducible first | exact HB.out | apply zJ | apply zD | apply zE) | exact HB.out)) hb); clear HO186 HO189 HO192 HO195 HO198 HB; have HO186 := n0_; have HO189 := n1_; have HO192 := n2_; have HO195 := n3_; have HO198 := n4_; have HO201 := n5_; have HB := n6_; clear n0_ n1_ n2_ n3_ n4_ n5_ n6_; (try clear hb); (try clear hb2); (try clear hk); (try clear hi); (try clear ho0); obtain ⟨Ao41, co41, eo41⟩ := Kd.R_slice HO201.out; subst eo41; have p203 : 0 ≤ (0 : Int) := (by omega); have q203 : 0 < (t199.length : Int) := yB (by first | (with_reducible assumption) | assumption); obtain ⟨ad203, e203, hx203_0⟩ := Kd.at_int (yM HO201.out).2.2 0 p203 q203; cases e203; have qi203 : (0 < t199.length) = True := yg (by omega); (try rw [show ((0 : Int)).toNat = 0 from rfl] at hx203_0); (try rw [Addr.add_zero'] at hx203_0); replace p203 := yg p203; replace q203 := yg q203))
       go_ret
       exact ⟨by first | rfl | (simp [errW_none, errW_some] <;> rfl) | (simp [*, errW_none, errW_some] <;> rfl), by repeat (first | (with_reducible first | exact HB.out | apply zJ | apply zD | apply zE) | exact HB.out)⟩
     ·rw [if_neg c7] at H
      exact absurd H (by simp)
    ·rw [if_neg c6] at H
     have c6b0 : ((t199.length : Int) == 2) = false := beq_eq_false_iff_ne.mpr c6
     have c6b1 : ((t199.length : Int) != 2) = true := bne_iff_ne.mpr c6
     obtain rfl := yY H
     go_enter Try.func10, Try.ntmps10
     go_wp2_with (first | ((with_reducible refine gate_callee (f := 11) rfl ?_); refine goesL_ (some 5) rfl rfl Try.func11 (by kernel_rfl) rfl #[.int .i64 1] rfl (by (try simp only [yH, yI, yJ]); first | done | rfl | (simp only [yG, yF]; rfl)) ?_; (with_reducible refine (act_Table.calls 1 t183 t184 _ A1.out).mono ?_); rintro e w42 ⟨v185, rfl, ho0, hb⟩; refine ⟨_, rfl, ?_⟩; have n0_ := zK (Kd.R_lower ho0 (yK (by repeat (first | (with_reducible first | exact HB.out | apply zJ | apply zD | apply zE) | exact HB.out)))); have n1_ := zK (yL (by repeat (first | (with_reducible first | exact HB.out | apply zJ | apply zD | apply zE) | exact HB.out)) hb); clear HB; have HO186 := n0_; have HB := n1_; clear n0_ n1_; (try clear hb); (try clear hb2); (try clear hk); (try clear hi); (try clear ho0); obtain ⟨Ao43, co43, eo43⟩ := Kd.R_slice HO186.out; subst eo43) | ((with_reducible refine gate_dst (N := 16) rfl ?_); refine Kd.R_lit (Kd.int .i8) _ 30 ?hg (N := 16) ?hd (xs := ([64, 0] : List Int)) (inner := [.int .i8 64, .int .i8 0]) (ok := fun _ => True) (okp := fun _ => True) ?hr ?hp (fun _ hk => hk) trivial (Below.refl _ _) (yN _) (by simp) ?_; (case hd => rfl); (case hg => rfl); (case hr => first | (go_simp; done) | (go_simp; rfl)); (case hp => exact (Reps.one (show Kd.M (Kd.int .i8) _ _ _ 64 [.int .i8 64] from rfl) (Reps.one (show Kd.M (Kd.int .i8) _ _ _ 0 [.int .i8 0] from rfl) (Reps.none _ _)))); intro v188 w44 ho45 hb hg_ hnew_; clear hg_ hnew_; (first | rw [← Ny187.out] at ho45 | (simp only [Int.reduceToNat] at ho45; rw [← Ny187.out] at ho45)); have n0_ := zK (Kd.R_elder' (by (with_reducible repeat (first | apply zL | apply zM | apply zN)); exact HO186.out) (Kd.R_base ho45) hb); have n1_ := zK (Kd.R_lower (Kd.R_new' ho45 (Kd.R_lt (by (with_reducible repeat (first | apply zL | apply zM | apply zN)); exact HO186.out))) (yK (by repeat (first | (with_reducible first | exact HB.out | apply zJ | apply zD | apply zE) | exact HB.out)))); have n2_ := zK (yL (by repeat (first | (with_reducible first | exact HB.out | apply zJ | apply zD | apply zE) | exact HB.out)) hb); clear HO186 HB; have HO186 := n0_; have HO189 := n1_; have HB := n2_; clear n0_ n1_ n2_ hb ho45) | ((with_reducible refine gate_dst (N := 17) rfl ?_); refine Kd.R_lit (Kd.int .i8) _ 30 ?hg (N := 17) ?hd (xs := ([64, 0] : List Int)) (inner := [.int .i8 64, .int .i8 0]) (ok := fun _ => True) (okp := fun _ => True) ?hr ?hp (fun _ hk => hk) trivial (Below.refl _ _) (yN _) (by simp) ?_; (case hd => rfl); (case hg => rfl); (case hr => first | (go_simp; done) | (go_simp; rfl)); (case hp => exact (Reps.one (show Kd.M (Kd.int .i8) _ _ _ 64 [.int .i8 64] from rfl) (Reps.one (show Kd.M (Kd.int .i8) _ _ _ 0 [.int .i8 0] from rfl) (Reps.none _ _)))); intro v191 w46 ho47 hb hg_ hnew_; clear hg_ hnew_; (first | rw [← Ny190.out] at ho47 | (simp only [Int.reduceToNat] at ho47; rw [← Ny190.out] at ho47)); have n0_ := zK (Kd.R_elder' (by (with_reducible repeat (first | apply zL | apply zM | apply zN)); exact HO186.out) (Kd.R_base ho47) hb); have n1_ := zK (Kd.R_elder' (by (with_reducible repeat (first | apply zL | apply zM | apply zN)); exact HO189.out) (Kd.R_base ho47) hb); have n2_ := zK (Kd.R_lower (Kd.R_new' (Kd.R_new' ho47 (Kd.R_lt (by (with_reducible repeat (first | apply zL | apply zM | apply zN)); exact HO186.out))) (Kd.R_lt (by (with_reducible repeat (first | apply zL | apply zM | apply zN)); exact HO189.out))) (yK (by repeat (first | (with_reducible first | exact HB.out | apply zJ | apply zD | apply zE) | exact HB.out)))); have n3_ := zK (yL (by repeat (first | (with_reducible first | exact HB.out | apply zJ | apply zD | apply zE) | exact HB.out)) hb); clear HO186 HO189 HB; have HO186 := n0_; have HO189 := n1_; have HO192 := n2_; have HB := n3_; clear n0_ n1_ n2_ n3_ hb ho47) | ((with_reducible refine gate_dst (N := 18) rfl ?_); refine Kd.R_lit (Kd.int .i8) _ 30 ?hg (N := 18) ?hd (xs := ([1, 2] : List Int)) (inner := [.int .i8 1, .int .i8 2]) (ok := fun _ => True) (okp := fun _ => True) ?hr ?hp (fun _ hk => hk) trivial (Below.refl _ _) (yN _) (by simp) ?_; (case hd => rfl); (case hg => rfl); (case hr => first | (go_simp; done) | (go_simp; rfl)); (case hp => exact (Reps.one (show Kd.M (Kd.int .i8) _ _ _ 1 [.int .i8 1] from rfl) (Reps.one (show Kd.M (Kd.int .i8) _ _ _ 2 [.int .i8 2] from rfl) (Reps.none _ _)))); intro v194 w48 ho49 hb hg_ hnew_; clear hg_ hnew_; (first | rw [← Ny193.out] at ho49 | (simp only [Int.reduceToNat] at ho49; rw [← Ny193.out] at ho49)); have n0_ := zK (Kd.R_elder' (by (with_reducible repeat (first | apply zL | apply zM | apply zN)); exact HO186.out) (Kd.R_base ho49) hb); have n1_ := zK (Kd.R_elder' (by (with_reducible repeat (first | apply zL | apply zM | apply zN)); exact HO189.out) (Kd.R_base ho49) hb); have n2_ := zK (Kd.R_elder' (by (with_reducible repeat (first | apply zL | apply zM | apply zN)); exact HO192.out) (Kd.R_base ho49) hb); have n3_ := zK (Kd.R_lower (Kd.R_new' (Kd.R_new' (Kd.R_new' ho49 (Kd.R_lt (by (with_reducible repeat (first | apply zL | apply zM | apply zN)); exact HO186.out))) (Kd.R_lt (by (with_reducible repeat (first | apply zL | apply zM | apply zN)); exact HO189.out))) (Kd.R_lt (by (with_reducible repeat (first | apply zL | apply zM | apply zN)); exact HO192.out))) (yK (by repeat (first | (with_reducible first | exact HB.out | apply zJ | apply zD | apply zE) | exact HB.out)))); have n4_ := zK (yL (by repeat (first | (with_reducible first | exact HB.out | apply zJ | apply zD | apply zE) | exact HB.out)) hb); clear HO186 HO189 HO192 HB; have HO186 := n0_; have HO189 := n1_; have HO192 := n2_; have HO195 := n3_; have HB := n4_; clear n0_ n1_ n2_ n3_ n4_ hb ho49; obtain ⟨Ao50, co50, eo50⟩ := Kd.R_slice HO195.out; subst eo50; obtain ⟨Ao51, co51, eo51⟩ := Kd.R_slice HO192.out; subst eo51; obtain ⟨Ao52, co52, eo52⟩ := Kd.R_slice HO189.out; subst eo52) | ((with_reducible refine gate_dst (N := 21) rfl ?_); refine Kd.R_lit (Kd.int .i8) _ 30 ?hg (N := 21) ?hd (xs := ([64, 7] : List Int)) (inner := [.int .i8 64, .int .i8 7]) (ok := fun _ => True) (okp := fun _ => True) ?hr ?hp (fun _ hk => hk) trivial (Below.refl _ _) (yN _) (by simp) ?_; (case hd => rfl); (case hg => rfl); (case hr => first | (go_simp; done) | (go_simp; rfl)); (case hp => exact (Reps.one (show Kd.M (Kd.int .i8) _ _ _ 64 [.int .i8 64] from rfl) (Reps.one (show Kd.M (Kd.int .i8) _ _ _ 7 [.int .i8 7] from rfl) (Reps.none _ _)))); intro v197 w53 ho54 hb hg_ hnew_; clear hg_ hnew_; (first | rw [← Ny196.out] at ho54 | (simp only [Int.reduceToNat] at ho54; rw [← Ny196.out] at ho54)); have n0_ := zK (Kd.R_elder' (by (with_reducible repeat (first | apply zL | apply zM | apply zN)); exact HO186.out) (Kd.R_base ho54) hb); have n1_ := zK (Kd.R_elder' (by (with_reducible repeat (first | apply zL | apply zM | apply zN)); exact HO189.out) (Kd.R_base ho54) hb); have n2_ := zK (Kd.R_elder' (by (with_reducible repeat (first | apply zL | apply zM | apply zN)); exact HO192.out) (Kd.R_base ho54) hb); have n3_ := zK (Kd.R_elder' (by (with_reducible repeat (first | apply zL | apply zM | apply zN)); exact HO195.out) (Kd.R_base ho54) hb); have n4_ := zK (Kd.R_lower (Kd.R_new' (Kd.R_new' (Kd.R_new' (Kd.R_new' ho54 (Kd.R_lt (by (with_reducible repeat (first | apply zL | apply zM | apply zN)); exact HO186.out))) (Kd.R_lt (by (with_reducible repeat (first | apply zL | apply zM | apply zN)); exact HO189.out))) (Kd.R_lt (by (with_reducible repeat (first | apply zL | apply zM | apply zN)); exact HO192.out))) (Kd.R_lt (by (with_reducible repeat (first | apply zL | apply zM | apply zN)); exact HO195.out))) (yK (by repeat (first | (with_reducible first | exact HB.out | apply zJ | apply zD | apply zE) | exact HB.out)))); have n5_ := zK (yL (by repeat (first | (with_reducible first | exact HB.out | apply zJ | apply zD | apply zE) | exact HB.out)) hb); clear HO186 HO189 HO192 HO195 HB; have HO186 := n0_; have HO189 := n1_; have HO192 := n2_; have HO195 := n3_; have HO198 := n4_; have HB := n5_; clear n0_ n1_ n2_ n3_ n4_ n5_ hb ho54; obtain ⟨Ao55, co55, eo55⟩ := Kd.R_slice HO198.out; subst eo55) | ((with_reducible refine gate_callee (f := 17) rfl ?_); refine goesL_ (some 22) rfl rfl Try.func17 (by kernel_rfl) rfl #[.agg #[.slice Ao52 y187.length co52, .slice Ao51 y190.length co51, .slice Ao50 y193.length co50, .int .i64 6, .int .i64 6, .int .i64 0], .slice Ao43 t183.length co43, .slice Ao55 y196.length co55] rfl (by (try simp only [yH, yI, yJ]); first | done | rfl | (simp only [yG, yF]; rfl)) ?_; (with_reducible refine (act_Middle.calls k _ _ y187 _ _ y190 _ _ y193 6 6 0 _ _ t183 _ _ y196 t199 t202 _ ?side1 ?side2 ?side3 ?side4 ?side5 ?side6 ?side7 ?side8 ?side9 ?side10 A4.out).mono ?_); (case side1 => repeat (first | exact (yM HO189.out).2.2 | (with_reducible refine yS ?_ _) | (with_reducible refine yT ?_ _) | (with_reducible refine yU ?_))); (case side2 => exact (yM HO189.out).2.1); (case side3 => repeat (first | exact (yM HO192.out).2.2 | (with_reducible refine yS ?_ _) | (with_reducible refine yT ?_ _) | (with_reducible refine yU ?_))); (case side4 => exact (yM HO192.out).2.1); (case side5 => repeat (first | exact (yM HO195.out).2.2 | (with_reducible refine yS ?_ _) | (with_reducible refine yT ?_ _) | (with_reducible refine yU ?_))); (case side6 => exact (yM HO195.out).2.1); (case side7 => repeat (first | exact (yM HO186.out).2.2 | (with_reducible refine yS ?_ _) | (with_reducible refine yT ?_ _) | (with_reducible refine yU ?_))); (case side8 => exact (yM HO186.out).2.1); (case side9 => repeat (first | exact (yM HO198.out).2.2 | (with_reducible refine yS ?_ _) | (with_reducible refine yT ?_ _) | (with_reducible refine yU ?_))); (case side10 => exact (yM HO198.out).2.1); rintro e w56 ⟨v200, rfl, ho0, hb⟩; refine ⟨_, rfl, ?_⟩; have n0_ := zK (yb (by (with_reducible repeat (first | apply zL | apply zM | apply zN)); exact HO186.out) hb); have n1_ := zK (yb (by (with_reducible repeat (first | apply zL | apply zM | apply zN)); exact HO189.out) hb); have n2_ := zK (yb (by (with_reducible repeat (first | apply zL | apply zM | apply zN)); exact HO192.out) hb); have n3_ := zK (yb (by (with_reducible repeat (first | apply zL | apply zM | apply zN)); exact HO195.out) hb); have n4_ := zK (yb (by (with_reducible repeat (first | apply zL | apply zM | apply zN)); exact HO198.out) hb); have n5_ := zK (Kd.R_lower ho0 (yK (by repeat (first | (with_reducible first | exact HB.out | apply zJ | apply zD | apply zE) | exact HB.out)))); have n6_ := zK (yL (by repeat (first | (with_reducible first | exact HB.out | apply zJ | apply zD | apply zE) | exact HB.out)) hb); clear HO186 HO189 HO192 HO195 HO198 HB; have HO186 := n0_; have HO189 := n1_; have HO192 := n2_; have HO195 := n3_; have HO198 := n4_; have HO201 := n5_; have HB := n6_; clear n0_ n1_ n2_ n3_ n4_ n5_ n6_; (try clear hb); (try clear hb2); (try clear hk); (try clear hi); (try clear ho0); obtain ⟨Ao57, co57, eo57⟩ := Kd.R_slice HO201.out; subst eo57))
     go_ret
     exact ⟨by first | rfl | (simp [errW_none, errW_some] <;> rfl) | (simp [*, errW_none, errW_some] <;> rfl), by repeat (first | (with_reducible first | exact HB.out | apply zJ | apply zD | apply zE) | exact HB.out)⟩
   ·rw [if_neg c5] at H
    have c5b0 : (t202 == 0) = false := beq_eq_false_iff_ne.mpr c5
    have c5b1 : (t202 != 0) = true := bne_iff_ne.mpr c5
    obtain rfl := yY H
    go_enter Try.func10, Try.ntmps10
    go_wp2_with (first | ((with_reducible refine gate_callee (f := 11) rfl ?_); refine goesL_ (some 5) rfl rfl Try.func11 (by kernel_rfl) rfl #[.int .i64 1] rfl (by (try simp only [yH, yI, yJ]); first | done | rfl | (simp only [yG, yF]; rfl)) ?_; (with_reducible refine (act_Table.calls 1 t183 t184 _ A1.out).mono ?_); rintro e w58 ⟨v185, rfl, ho0, hb⟩; refine ⟨_, rfl, ?_⟩; have n0_ := zK (Kd.R_lower ho0 (yK (by repeat (first | (with_reducible first | exact HB.out | apply zJ | apply zD | apply zE) | exact HB.out)))); have n1_ := zK (yL (by repeat (first | (with_reducible first | exact HB.out | apply zJ | apply zD | apply zE) | exact HB.out)) hb); clear HB; have HO186 := n0_; have HB := n1_; clear n0_ n1_; (try clear hb); (try clear hb2); (try clear hk); (try clear hi); (try clear ho0); obtain ⟨Ao59, co59, eo59⟩ := Kd.R_slice HO186.out; subst eo59) | ((with_reducible refine gate_dst (N := 16) rfl ?_); refine Kd.R_lit (Kd.int .i8) _ 30 ?hg (N := 16) ?hd (xs := ([64, 0] : List Int)) (inner := [.int .i8 64, .int .i8 0]) (ok := fun _ => True) (okp := fun _ => True) ?hr ?hp (fun _ hk => hk) trivial (Below.refl _ _) (yN _) (by simp) ?_; (case hd => rfl); (case hg => rfl); (case hr => first | (go_simp; done) | (go_simp; rfl)); (case hp => exact (Reps.one (show Kd.M (Kd.int .i8) _ _ _ 64 [.int .i8 64] from rfl) (Reps.one (show Kd.M (Kd.int .i8) _ _ _ 0 [.int .i8 0] from rfl) (Reps.none _ _)))); intro v188 w60 ho61 hb hg_ hnew_; clear hg_ hnew_; (first | rw [← Ny187.out] at ho61 | (simp only [Int.reduceToNat] at ho61; rw [← Ny187.out] at ho61)); have n0_ := zK (Kd.R_elder' (by (with_reducible repeat (first | apply zL | apply zM | apply zN)); exact HO186.out) (Kd.R_base ho61) hb); have n1_ := zK (Kd.R_lower (Kd.R_new' ho61 (Kd.R_lt (by (with_reducible repeat (first | apply zL | apply zM | apply zN)); exact HO186.out))) (yK (by repeat (first | (with_reducible first | exact HB.out | apply zJ | apply zD | apply zE) | exact HB.out)))); have n2_ := zK (yL (by repeat (first | (with_reducible first | exact HB.out | apply zJ | apply zD | apply zE) | exact HB.out)) hb); clear HO186 HB; have HO186 := n0_; have HO189 := n1_; have HB := n2_; clear n0_ n1_ n2_ hb ho61) | ((with_reducible refine gate_dst (N := 17) rfl ?_); refine Kd.R_lit (Kd.int .i8) _ 30 ?hg (N := 17) ?hd (xs := ([64, 0] : List Int)) (inner := [.int .i8 64, .int .i8 0]) (ok := fun _ => True) (okp := fun _ => True) ?hr ?hp (fun _ hk => hk) trivial (Below.refl _ _) (yN _) (by simp) ?_; (case hd => rfl); (case hg => rfl); (case hr => first | (go_simp; done) | (go_simp; rfl)); (case hp => exact (Reps.one (show Kd.M (Kd.int .i8) _ _ _ 64 [.int .i8 64] from rfl) (Reps.one (show Kd.M (Kd.int .i8) _ _ _ 0 [.int .i8 0] from rfl) (Reps.none _ _)))); intro v191 w62 ho63 hb hg_ hnew_; clear hg_ hnew_; (first | rw [← Ny190.out] at ho63 | (simp only [Int.reduceToNat] at ho63; rw [← Ny190.out] at ho63)); have n0_ := zK (Kd.R_elder' (by (with_reducible repeat (first | apply zL | apply zM | apply zN)); exact HO186.out) (Kd.R_base ho63) hb); have n1_ := zK (Kd.R_elder' (by (with_reducible repeat (first | apply zL | apply zM | apply zN)); exact HO189.out) (Kd.R_base ho63) hb); have n2_ := zK (Kd.R_lower (Kd.R_new' (Kd.R_new' ho63 (Kd.R_lt (by (with_reducible repeat (first | apply zL | apply zM | apply zN)); exact HO186.out))) (Kd.R_lt (by (with_reducible repeat (first | apply zL | apply zM | apply zN)); exact HO189.out))) (yK (by repeat (first | (with_reducible first | exact HB.out | apply zJ | apply zD | apply zE) | exact HB.out)))); have n3_ := zK (yL (by repeat (first | (with_reducible first | exact HB.out | apply zJ | apply zD | apply zE) | exact HB.out)) hb); clear HO186 HO189 HB; have HO186 := n0_; have HO189 := n1_; have HO192 := n2_; have HB := n3_; clear n0_ n1_ n2_ n3_ hb ho63) | ((with_reducible refine gate_dst (N := 18) rfl ?_); refine Kd.R_lit (Kd.int .i8) _ 30 ?hg (N := 18) ?hd (xs := ([1, 2] : List Int)) (inner := [.int .i8 1, .int .i8 2]) (ok := fun _ => True) (okp := fun _ => True) ?hr ?hp (fun _ hk => hk) trivial (Below.refl _ _) (yN _) (by simp) ?_; (case hd => rfl); (case hg => rfl); (case hr => first | (go_simp; done) | (go_simp; rfl)); (case hp => exact (Reps.one (show Kd.M (Kd.int .i8) _ _ _ 1 [.int .i8 1] from rfl) (Reps.one (show Kd.M (Kd.int .i8) _ _ _ 2 [.int .i8 2] from rfl) (Reps.none _ _)))); intro v194 w64 ho65 hb hg_ hnew_; clear hg_ hnew_; (first | rw [← Ny193.out] at ho65 | (simp only [Int.reduceToNat] at ho65; rw [← Ny193.out] at ho65)); have n0_ := zK (Kd.R_elder' (by (with_reducible repeat (first | apply zL | apply zM | apply zN)); exact HO186.out) (Kd.R_base ho65) hb); have n1_ := zK (Kd.R_elder' (by (with_reducible repeat (first | apply zL | apply zM | apply zN)); exact HO189.out) (Kd.R_base ho65) hb); have n2_ := zK (Kd.R_elder' (by (with_reducible repeat (first | apply zL | apply zM | apply zN)); exact HO192.out) (Kd.R_base ho65) hb); have n3_ := zK (Kd.R_lower (Kd.R_new' (Kd.R_new' (Kd.R_new' ho65 (Kd.R_lt (by (with_reducible repeat (first | apply zL | apply zM | apply zN)); exact HO186.out))) (Kd.R_lt (by (with_reducible repeat (first | apply zL | apply zM | apply zN)); exact HO189.out))) (Kd.R_lt (by (with_reducible repeat (first | apply zL | apply zM | apply zN)); exact HO192.out))) (yK (by repeat (first | (with_reducible first | exact HB.out | apply zJ | apply zD | apply zE) | exact HB.out)))); have n4_ := zK (yL (by repeat (first | (with_reducible first | exact HB.out | apply zJ | apply zD | apply zE) | exact HB.out)) hb); clear HO186 HO189 HO192 HB; have HO186 := n0_; have HO189 := n1_; have HO192 := n2_; have HO195 := n3_; have HB := n4_; clear n0_ n1_ n2_ n3_ n4_ hb ho65; obtain ⟨Ao66, co66, eo66⟩ := Kd.R_slice HO195.out; subst eo66; obtain ⟨Ao67, co67, eo67⟩ := Kd.R_slice HO192.out; subst eo67; obtain ⟨Ao68, co68, eo68⟩ := Kd.R_slice HO189.out; subst eo68) | ((with_reducible refine gate_dst (N := 21) rfl ?_); refine Kd.R_lit (Kd.int .i8) _ 30 ?hg (N := 21) ?hd (xs := ([64, 7] : List Int)) (inner := [.int .i8 64, .int .i8 7]) (ok := fun _ => True) (okp := fun _ => True) ?hr ?hp (fun _ hk => hk) trivial (Below.refl _ _) (yN _) (by simp) ?_; (case hd => rfl); (case hg => rfl); (case hr => first | (go_simp; done) | (go_simp; rfl)); (case hp => exact (Reps.one (show Kd.M (Kd.int .i8) _ _ _ 64 [.int .i8 64] from rfl) (Reps.one (show Kd.M (Kd.int .i8) _ _ _ 7 [.int .i8 7] from rfl) (Reps.none _ _)))); intro v197 w69 ho70 hb hg_ hnew_; clear hg_ hnew_; (first | rw [← Ny196.out] at ho70 | (simp only [Int.reduceToNat] at ho70; rw [← Ny196.out] at ho70)); have n0_ := zK (Kd.R_elder' (by (with_reducible repeat (first | apply zL | apply zM | apply zN)); exact HO186.out) (Kd.R_base ho70) hb); have n1_ := zK (Kd.R_elder' (by (with_reducible repeat (first | apply zL | apply zM | apply zN)); exact HO189.out) (Kd.R_base ho70) hb); have n2_ := zK (Kd.R_elder' (by (with_reducible repeat (first | apply zL | apply zM | apply zN)); exact HO192.out) (Kd.R_base ho70) hb); have n3_ := zK (Kd.R_elder' (by (with_reducible repeat (first | apply zL | apply zM | apply zN)); exact HO195.out) (Kd.R_base ho70) hb); have n4_ := zK (Kd.R_lower (Kd.R_new' (Kd.R_new' (Kd.R_new' (Kd.R_new' ho70 (Kd.R_lt (by (with_reducible repeat (first | apply zL | apply zM | apply zN)); exact HO186.out))) (Kd.R_lt (by (with_reducible repeat (first | apply zL | apply zM | apply zN)); exact HO189.out))) (Kd.R_lt (by (with_reducible repeat (first | apply zL | apply zM | apply zN)); exact HO192.out))) (Kd.R_lt (by (with_reducible repeat (first | apply zL | apply zM | apply zN)); exact HO195.out))) (yK (by repeat (first | (with_reducible first | exact HB.out | apply zJ | apply zD | apply zE) | exact HB.out)))); have n5_ := zK (yL (by repeat (first | (with_reducible first | exact HB.out | apply zJ | apply zD | apply zE) | exact HB.out)) hb); clear HO186 HO189 HO192 HO195 HB; have HO186 := n0_; have HO189 := n1_; have HO192 := n2_; have HO195 := n3_; have HO198 := n4_; have HB := n5_; clear n0_ n1_ n2_ n3_ n4_ n5_ hb ho70; obtain ⟨Ao71, co71, eo71⟩ := Kd.R_slice HO198.out; subst eo71) | ((with_reducible refine gate_callee (f := 17) rfl ?_); refine goesL_ (some 22) rfl rfl Try.func17 (by kernel_rfl) rfl #[.agg #[.slice Ao68 y187.length co68, .slice Ao67 y190.length co67, .slice Ao66 y193.length co66, .int .i64 6, .int .i64 6, .int .i64 0], .slice Ao59 t183.length co59, .slice Ao71 y196.length co71] rfl (by (try simp only [yH, yI, yJ]); first | done | rfl | (simp only [yG, yF]; rfl)) ?_; (with_reducible refine (act_Middle.calls k _ _ y187 _ _ y190 _ _ y193 6 6 0 _ _ t183 _ _ y196 t199 t202 _ ?side1 ?side2 ?side3 ?side4 ?side5 ?side6 ?side7 ?side8 ?side9 ?side10 A4.out).mono ?_); (case side1 => repeat (first | exact (yM HO189.out).2.2 | (with_reducible refine yS ?_ _) | (with_reducible refine yT ?_ _) | (with_reducible refine yU ?_))); (case side2 => exact (yM HO189.out).2.1); (case side3 => repeat (first | exact (yM HO192.out).2.2 | (with_reducible refine yS ?_ _) | (with_reducible refine yT ?_ _) | (with_reducible refine yU ?_))); (case side4 => exact (yM HO192.out).2.1); (case side5 => repeat (first | exact (yM HO195.out).2.2 | (with_reducible refine yS ?_ _) | (with_reducible refine yT ?_ _) | (with_reducible refine yU ?_))); (case side6 => exact (yM HO195.out).2.1); (case side7 => repeat (first | exact (yM HO186.out).2.2 | (with_reducible refine yS ?_ _) | (with_reducible refine yT ?_ _) | (with_reducible refine yU ?_))); (case side8 => exact (yM HO186.out).2.1); (case side9 => repeat (first | exact (yM HO198.out).2.2 | (with_reducible refine yS ?_ _) | (with_reducible refine yT ?_ _) | (with_reducible refine yU ?_))); (case side10 => exact (yM HO198.out).2.1); rintro e w72 ⟨v200, rfl, ho0, hb⟩; refine ⟨_, rfl, ?_⟩; have n0_ := zK (yb (by (with_reducible repeat (first | apply zL | apply zM | apply zN)); exact HO186.out) hb); have n1_ := zK (yb (by (with_reducible repeat (first | apply zL | apply zM | apply zN)); exact HO189.out) hb); have n2_ := zK (yb (by (with_reducible repeat (first | apply zL | apply zM | apply zN)); exact HO192.out) hb); have n3_ := zK (yb (by (with_reducible repeat (first | apply zL | apply zM | apply zN)); exact HO195.out) hb); have n4_ := zK (yb (by (with_reducible repeat (first | apply zL | apply zM | apply zN)); exact HO198.out) hb); have n5_ := zK (Kd.R_lower ho0 (yK (by repeat (first | (with_reducible first | exact HB.out | apply zJ | apply zD | apply zE) | exact HB.out)))); have n6_ := zK (yL (by repeat (first | (with_reducible first | exact HB.out | apply zJ | apply zD | apply zE) | exact HB.out)) hb); clear HO186 HO189 HO192 HO195 HO198 HB; have HO186 := n0_; have HO189 := n1_; have HO192 := n2_; have HO195 := n3_; have HO198 := n4_; have HO201 := n5_; have HB := n6_; clear n0_ n1_ n2_ n3_ n4_ n5_ n6_; (try clear hb); (try clear hb2); (try clear hk); (try clear hi); (try clear ho0)))
    go_ret
    exact ⟨by first | rfl | (simp [errW_none, errW_some] <;> rfl) | (simp [*, errW_none, errW_some] <;> rfl), by repeat (first | (with_reducible first | exact HB.out | apply zJ | apply zD | apply zE) | exact HB.out)⟩
  ·rw [if_neg c3] at H
   have c3b0 : ((t183.length : Int) == 256) = false := beq_eq_false_iff_ne.mpr c3
   have c3b1 : ((t183.length : Int) != 256) = true := bne_iff_ne.mpr c3
   obtain rfl := yY H
   go_enter Try.func10, Try.ntmps10
   go_wp2_with (first | ((with_reducible refine gate_callee (f := 11) rfl ?_); refine goesL_ (some 5) rfl rfl Try.func11 (by kernel_rfl) rfl #[.int .i64 1] rfl (by (try simp only [yH, yI, yJ]); first | done | rfl | (simp only [yG, yF]; rfl)) ?_; (with_reducible refine (act_Table.calls 1 t183 t184 _ A1.out).mono ?_); rintro e w73 ⟨v185, rfl, ho0, hb⟩; refine ⟨_, rfl, ?_⟩; have n0_ := zK (Kd.R_lower ho0 (yK (by repeat (first | (with_reducible first | exact HB.out | apply zJ | apply zD | apply zE) | exact HB.out)))); have n1_ := zK (yL (by repeat (first | (with_reducible first | exact HB.out | apply zJ | apply zD | apply zE) | exact HB.out)) hb); clear HB; have HO186 := n0_; have HB := n1_; clear n0_ n1_; (try clear hb); (try clear hb2); (try clear hk); (try clear hi); (try clear ho0); obtain ⟨Ao74, co74, eo74⟩ := Kd.R_slice HO186.out; subst eo74))
   go_ret
   exact ⟨by first | rfl | (simp [errW_none, errW_some] <;> rfl) | (simp [*, errW_none, errW_some] <;> rfl), by repeat (first | (with_reducible first | exact HB.out | apply zJ | apply zD | apply zE) | exact HB.out)⟩
 ·rw [if_neg c2] at H
  have c2b0 : (t184 == 0) = false := beq_eq_false_iff_ne.mpr c2
  have c2b1 : (t184 != 0) = true := bne_iff_ne.mpr c2
  obtain rfl := yY H
  go_enter Try.func10, Try.ntmps10
  go_wp2_with (first | ((with_reducible refine gate_callee (f := 11) rfl ?_); refine goesL_ (some 5) rfl rfl Try.func11 (by kernel_rfl) rfl #[.int .i64 1] rfl (by (try simp only [yH, yI, yJ]); first | done | rfl | (simp only [yG, yF]; rfl)) ?_; (with_reducible refine (act_Table.calls 1 t183 t184 _ A1.out).mono ?_); rintro e w75 ⟨v185, rfl, ho0, hb⟩; refine ⟨_, rfl, ?_⟩; have n0_ := zK (Kd.R_lower ho0 (yK (by repeat (first | (with_reducible first | exact HB.out | apply zJ | apply zD | apply zE) | exact HB.out)))); have n1_ := zK (yL (by repeat (first | (with_reducible first | exact HB.out | apply zJ | apply zD | apply zE) | exact HB.out)) hb); clear HB; have HO186 := n0_; have HB := n1_; clear n0_ n1_; (try clear hb); (try clear hb2); (try clear hk); (try clear hi); (try clear ho0)))
  go_ret
  exact ⟨by first | rfl | (simp [errW_none, errW_some] <;> rfl) | (simp [*, errW_none, errW_some] <;> rfl), by repeat (first | (with_reducible first | exact HB.out | apply zJ | apply zD | apply zE) | exact HB.out)⟩

/-! ### r02_Floor: function 60 -/
def r02_Floor.f (a0 : Int) (a1 : Int) : Option (Int × Int × Int) := if a1 < 1 then (some (0, 0, 21)) else (if a1 = 0 then (none) else (if (Int.tmod a0 a1) < 0 then (some (wrap64 ((wrap64 (Int.tdiv a0 a1)) - 1), wrap64 ((Int.tmod a0 a1) + a1), 0)) else (some (wrap64 (Int.tdiv a0 a1), Int.tmod a0 a1, 0))))
set_option maxHeartbeats 8000000 in
set_option maxRecDepth 100000 in
theorem r02_Floor.calls (a0 : Int) (a1 : Int) (r1 : Int) (r2 : Int) (r3 : Int) (w : World) (h : r02_Floor.f a0 a1 = some (r1, r2, r3)) :
  Calls Try.prog 60 #[.int .i64 a0, .int .i64 a1] w fun e w' => e = .returned (.tuple #[.int .i64 r1, .int .i64 r2, .int .i64 r3]) ∧ Drawn0 w w' := by
 have H : (if a1 < 1 then (some (0, 0, 21)) else (if a1 = 0 then (none) else (if (Int.tmod a0 a1) < 0 then (some (wrap64 ((wrap64 (Int.tdiv a0 a1)) - 1), wrap64 ((Int.tmod a0 a1) + a1), 0)) else (some (wrap64 (Int.tdiv a0 a1), Int.tmod a0 a1, 0))))) = some (r1, r2, r3) := h
 clear h
 by_cases c3 : a1 < 1
 ·rw [if_pos c3] at H
  have c3b0 : decide (a1 < 1) = true := yC c3
  clear c3
  simp only [yZ, ya] at H
  obtain ⟨rfl, rfl, rfl⟩ := H
  go_enter Try.func60, Try.ntmps60
  go_wp2
  go_ret3
  exact ⟨by first | rfl | (simp; done) | (simp [*]; done), by repeat (first | exact Drawn0.refl _ | apply Drawn0.step)⟩
 ·rw [if_neg c3] at H
  have c3b0 : decide (a1 < 1) = false := yD c3
  clear c3
  by_cases c4 : a1 = 0
  ·rw [if_pos c4] at H
   exact absurd H (by simp)
  ·rw [if_neg c4] at H
   have c4b0 : (a1 == 0) = false := beq_eq_false_iff_ne.mpr c4
   have c4b1 : (a1 != 0) = true := bne_iff_ne.mpr c4
   by_cases c5 : (Int.tmod a0 a1) < 0
   ·rw [if_pos c5] at H
    have c5b0 : decide ((Int.tmod a0 a1) < 0) = true := yC c5
    clear c5
    simp only [yZ, ya] at H
    obtain ⟨rfl, rfl, rfl⟩ := H
    go_enter Try.func60, Try.ntmps60
    go_wp2
    go_ret3
    exact ⟨by first | rfl | (simp; done) | (simp [*]; done), by repeat (first | exact Drawn0.refl _ | apply Drawn0.step)⟩
   ·rw [if_neg c5] at H
    have c5b0 : decide ((Int.tmod a0 a1) < 0) = false := yD c5
    clear c5
    simp only [yZ, ya] at H
    obtain ⟨rfl, rfl, rfl⟩ := H
    go_enter Try.func60, Try.ntmps60
    go_wp2
    go_ret3
    exact ⟨by first | rfl | (simp; done) | (simp [*]; done), by repeat (first | exact Drawn0.refl _ | apply Drawn0.step)⟩

/-! ### r02_Near: function 48 -/
def r02_Near.f (a0 : Int) (a1 : Int) : Option (Int × Int) := (r02_Floor.f a0 a1).bind fun bt205 => (if bt205.2.2 = 0 then (if bt205.2.1 > (wrap64 (a1 - bt205.2.1)) then (some (wrap64 (bt205.1 + 1), 0)) else (if bt205.2.1 = (wrap64 (a1 - bt205.2.1)) then (if (Int.tmod bt205.1 2) = 0 then (some (bt205.1, 0)) else (some (wrap64 (bt205.1 + 1), 0))) else (some (bt205.1, 0)))) else (some (0, bt205.2.2)))
set_option maxHeartbeats 8000000 in
set_option maxRecDepth 100000 in
theorem r02_Near.calls (a0 : Int) (a1 : Int) (r1 : Int) (r2 : Int) (w : World) (h : r02_Near.f a0 a1 = some (r1, r2)) :
  Calls Try.prog 48 #[.int .i64 a0, .int .i64 a1] w fun e w' => e = .returned (.tuple #[.int .i64 r1, .int .i64 r2]) ∧ Drawn0 w w' := by
 have H : ((r02_Floor.f a0 a1).bind fun bt205 => (if bt205.2.2 = 0 then (if bt205.2.1 > (wrap64 (a1 - bt205.2.1)) then (some (wrap64 (bt205.1 + 1), 0)) else (if bt205.2.1 = (wrap64 (a1 - bt205.2.1)) then (if (Int.tmod bt205.1 2) = 0 then (some (bt205.1, 0)) else (some (wrap64 (bt205.1 + 1), 0))) else (some (bt205.1, 0)))) else (some (0, bt205.2.2)))) = some (r1, r2) := h
 clear h
 replace H := yA.mp H
 obtain ⟨⟨t205, t206, t207⟩, A30, H⟩ := H
 replace H : (if t207 = 0 then (if t206 > (wrap64 (a1 - t206)) then (some (wrap64 (t205 + 1), 0)) else (if t206 = (wrap64 (a1 - t206)) then (if (Int.tmod t205 2) = 0 then (some (t205, 0)) else (some (wrap64 (t205 + 1), 0))) else (some (t205, 0)))) else (some (0, t207))) = some (r1, r2) := H
 have A3 := zK A30
 clear A30
 by_cases c4 : t207 = 0
 ·rw [if_pos c4] at H
  have c4b0 : (t207 == 0) = true := beq_iff_eq.mpr c4
  have c4b1 : (t207 != 0) = false := bne_eq_false_iff_eq.mpr c4
  clear c4
  by_cases c5 : t206 > (wrap64 (a1 - t206))
  ·rw [if_pos c5] at H
   have c5b0 : decide ((wrap64 (a1 - t206)) < t206) = true := yC c5
   clear c5
   simp only [yZ, ya] at H
   obtain ⟨rfl, rfl⟩ := H
   go_enter Try.func48, Try.ntmps48
   go_wp2_with (first | ((with_reducible refine gate_callee (f := 60) rfl ?_); refine goesL_ (some 12) rfl rfl Try.func60 (by kernel_rfl) rfl #[.int .i64 a0, .int .i64 a1] rfl (by (try simp only [yH, yI, yJ]); first | done | rfl | (simp only [yG, yF]; rfl)) ?_; (with_reducible refine (r02_Floor.calls a0 a1 t205 t206 t207 _ A3.out).mono ?_); rintro e w' ⟨rfl, ⟨nd, rfl⟩⟩; refine ⟨_, rfl, ?_⟩))
   go_ret2
   exact ⟨by first | rfl | (simp; done) | (simp [*]; done), by repeat (first | exact Drawn0.refl _ | apply Drawn0.step)⟩
  ·rw [if_neg c5] at H
   have c5b0 : decide ((wrap64 (a1 - t206)) < t206) = false := yD c5
   clear c5
   by_cases c6 : t206 = (wrap64 (a1 - t206))
   ·rw [if_pos c6] at H
    have c6b0 : (t206 == (wrap64 (a1 - t206))) = true := beq_iff_eq.mpr c6
    have c6b1 : (t206 != (wrap64 (a1 - t206))) = false := bne_eq_false_iff_eq.mpr c6
    clear c6
    by_cases c7 : (Int.tmod t205 2) = 0
    ·rw [if_pos c7] at H
     have c7b0 : ((Int.tmod t205 2) == 0) = true := beq_iff_eq.mpr c7
     have c7b1 : ((Int.tmod t205 2) != 0) = false := bne_eq_false_iff_eq.mpr c7
     clear c7
     simp only [yZ, ya] at H
     obtain ⟨rfl, rfl⟩ := H
     go_enter Try.func48, Try.ntmps48
     go_wp2_with (first | ((with_reducible refine gate_callee (f := 60) rfl ?_); refine goesL_ (some 12) rfl rfl Try.func60 (by kernel_rfl) rfl #[.int .i64 a0, .int .i64 a1] rfl (by (try simp only [yH, yI, yJ]); first | done | rfl | (simp only [yG, yF]; rfl)) ?_; (with_reducible refine (r02_Floor.calls a0 a1 t205 t206 t207 _ A3.out).mono ?_); rintro e w' ⟨rfl, ⟨nd, rfl⟩⟩; refine ⟨_, rfl, ?_⟩))
     go_ret2
     exact ⟨by first | rfl | (simp; done) | (simp [*]; done), by repeat (first | exact Drawn0.refl _ | apply Drawn0.step)⟩
    ·rw [if_neg c7] at H
     have c7b0 : ((Int.tmod t205 2) == 0) = false := beq_eq_false_iff_ne.mpr c7
     have c7b1 : ((Int.tmod t205 2) != 0) = true := bne_iff_ne.mpr c7
     simp only [yZ, ya] at H
     obtain ⟨rfl, rfl⟩ := H
     go_enter Try.func48, Try.ntmps48
     go_wp2_with (first | ((with_reducible refine gate_callee (f := 60) rfl ?_); refine goesL_ (some 12) rfl rfl Try.func60 (by kernel_rfl) rfl #[.int .i64 a0, .int .i64 a1] rfl (by (try simp only [yH, yI, yJ]); first | done | rfl | (simp only [yG, yF]; rfl)) ?_; (with_reducible refine (r02_Floor.calls a0 a1 t205 t206 t207 _ A3.out).mono ?_); rintro e w' ⟨rfl, ⟨nd, rfl⟩⟩; refine ⟨_, rfl, ?_⟩))
     go_ret2
     exact ⟨by first | rfl | (simp; done) | (simp [*]; done), by repeat (first | exact Drawn0.refl _ | apply Drawn0.step)⟩
   ·rw [if_neg c6] at H
    have c6b0 : (t206 == (wrap64 (a1 - t206))) = false := beq_eq_false_iff_ne.mpr c6
    have c6b1 : (t206 != (wrap64 (a1 - t206))) = true := bne_iff_ne.mpr c6
    simp only [yZ, ya] at H
    obtain ⟨rfl, rfl⟩ := H
    go_enter Try.func48, Try.ntmps48
    go_wp2_with (first | ((with_reducible refine gate_callee (f := 60) rfl ?_); refine goesL_ (some 12) rfl rfl Try.func60 (by kernel_rfl) rfl #[.int .i64 a0, .int .i64 a1] rfl (by (try simp only [yH, yI, yJ]); first | done | rfl | (simp only [yG, yF]; rfl)) ?_; (with_reducible refine (r02_Floor.calls a0 a1 t205 t206 t207 _ A3.out).mono ?_); rintro e w' ⟨rfl, ⟨nd, rfl⟩⟩; refine ⟨_, rfl, ?_⟩))
    go_ret2
    exact ⟨by first | rfl | (simp; done) | (simp [*]; done), by repeat (first | exact Drawn0.refl _ | apply Drawn0.step)⟩
 ·rw [if_neg c4] at H
  have c4b0 : (t207 == 0) = false := beq_eq_false_iff_ne.mpr c4
  have c4b1 : (t207 != 0) = true := bne_iff_ne.mpr c4
  simp only [yZ, ya] at H
  obtain ⟨rfl, rfl⟩ := H
  go_enter Try.func48, Try.ntmps48
  go_wp2_with (first | ((with_reducible refine gate_callee (f := 60) rfl ?_); refine goesL_ (some 12) rfl rfl Try.func60 (by kernel_rfl) rfl #[.int .i64 a0, .int .i64 a1] rfl (by (try simp only [yH, yI, yJ]); first | done | rfl | (simp only [yG, yF]; rfl)) ?_; (with_reducible refine (r02_Floor.calls a0 a1 t205 t206 t207 _ A3.out).mono ?_); rintro e w' ⟨rfl, ⟨nd, rfl⟩⟩; refine ⟨_, rfl, ?_⟩))
  go_ret2
  exact ⟨by first | rfl | (simp; done) | (simp [*]; done), by repeat (first | exact Drawn0.refl _ | apply Drawn0.step)⟩

/-! ### r02_Round: function 28 -/
mutual
def r02_Round.j0 : Nat → Int → Int → Bool → Option (Int × Int)
 | 0, _, _, _ => none
 | k + 1, x0, x1, x13 => if x13 = true then (some (0, 20)) else (r02_Round.l0 k x0 x1 1 0)
def r02_Round.l0 : Nat → Int → Int → Int → Int → Option (Int × Int)
 | 0, _, _, _, _ => none
 | k + 1, x0, x1, x6, x7 => if x7 < x1 then (r02_Round.l0 k x0 x1 (wrap64 (x6 * 2)) (wrap64 (x7 + 1))) else ((r02_Near.f x0 x6).bind fun bt208 => (some (bt208.1, bt208.2)))
end
def r02_Round.f (k : Nat) (a0 : Int) (a1 : Int) : Option (Int × Int) := if a1 < 0 then (r02_Round.j0 k a0 a1 true) else (r02_Round.j0 k a0 a1 (decide (a1 > 62)))
theorem r02_Round.mono_l : ∀ k, (∀ y0 y1 y2, LeO (r02_Round.j0 k y0 y1 y2) (r02_Round.j0 (k + 1) y0 y1 y2)) ∧ (∀ y0 y1 y2 y3, LeO (r02_Round.l0 k y0 y1 y2 y3) (r02_Round.l0 (k + 1) y0 y1 y2 y3))
 | 0 => ⟨fun _ _ _ r h => by simp [r02_Round.j0] at h, fun _ _ _ _ r h => by simp [r02_Round.l0] at h⟩
 | k + 1 => by
  obtain ⟨ih0, ih1⟩ := r02_Round.mono_l k
  refine ⟨?_, ?_⟩ <;> (intros; first | unfold r02_Round.j0 | unfold r02_Round.l0)
  all_goals repeat' first
   | (with_reducible exact ih0 _ _ _)
   | (with_reducible exact ih1 _ _ _ _)
   | (with_reducible exact yR _)
   | (with_reducible exact yO _)
   | (with_reducible refine yQ ?_ ?_)
   | (with_reducible refine yP ?_ (fun _ => ?_))
   | exact ih0 _ _ _
   | exact ih1 _ _ _ _
   | exact yO _
   | refine yQ ?_ ?_
   | refine yP ?_ (fun _ => ?_)
theorem r02_Round.mono : ∀ a0 a1 k, LeO (r02_Round.f k a0 a1) (r02_Round.f (k + 1) a0 a1) := by
 intro a0 a1 k
 obtain ⟨ih0, ih1⟩ := r02_Round.mono_l k
 unfold r02_Round.f
 repeat' first
   | (with_reducible exact ih0 _ _ _)
   | (with_reducible exact ih1 _ _ _ _)
   | (with_reducible exact yR _)
   | (with_reducible exact yO _)
   | (with_reducible refine yQ ?_ ?_)
   | (with_reducible refine yP ?_ (fun _ => ?_))
   | exact ih0 _ _ _
   | exact ih1 _ _ _ _
   | exact yO _
   | refine yQ ?_ ?_
   | refine yP ?_ (fun _ => ?_)
set_option maxHeartbeats 8000000 in
set_option maxRecDepth 100000 in
theorem r02_Round.calls (k : Nat) (a0 : Int) (a1 : Int) (r1 : Int) (r2 : Int) (w : World) (h : r02_Round.f k a0 a1 = some (r1, r2)) :
  Calls Try.prog 28 #[.int .i64 a0, .int .i64 a1] w fun e w' => e = .returned (.tuple #[.int .i64 r1, .int .i64 r2]) ∧ Drawn0 w w' := by
 have H : (if a1 < 0 then (r02_Round.j0 k a0 a1 true) else (r02_Round.j0 k a0 a1 (decide (a1 > 62)))) = some (r1, r2) := h
 clear h
 have HC3 := zK H
 clear H
 go_enter Try.func28, Try.ntmps28
 go_upto_region 1 with (fail)
 go_cut [13] (fun v13 wc => ∃ (kq : Nat) (x13_2 : Bool), v13 = .bool x13_2 ∧ Aside0 (r02_Round.j0 kq a0 a1 x13_2 = some (r1, r2)) ∧ Aside0 (kq ≤ k) ∧ Drawn0 w wc)
 case first =>
  have H := HC3.out
  clear HC3
  by_cases c4 : a1 < 0
  ·rw [if_pos c4] at H
   have c4b0 : decide (a1 < 0) = true := yC c4
   clear c4
   (first | rw [c4b0] | (simp only [i64_w, i32_w]; rw [c4b0]) | skip)
   have H' := zK H
   clear H
   go_wp2
   go_meet
   case rel => exact ⟨_, (true), (by first | rfl | (simp; done) | (simp [*]; done)), H', ⟨by first | omega | exact yN _⟩, by repeat (first | exact Drawn0.refl _ | apply Drawn0.step)⟩
  ·rw [if_neg c4] at H
   have c4b0 : decide (a1 < 0) = false := yD c4
   clear c4
   (first | rw [c4b0] | (simp only [i64_w, i32_w]; rw [c4b0]) | skip)
   have H' := zK H
   clear H
   go_wp2
   go_meet
   case rel => exact ⟨_, (decide (a1 > 62)), (by first | rfl | (simp; done) | (simp [*]; done)), H', ⟨by first | omega | exact yN _⟩, by repeat (first | exact Drawn0.refl _ | apply Drawn0.step)⟩
 case rest =>
  clear HC3
  try clear c2
  try clear p2
  try clear c4
  try clear c4b0
  obtain ⟨kq, x13_2, rfl, HA, HJ2, ⟨mc2, rfl⟩⟩ := hcut
  cases kq with
  | zero => exact absurd HA.out (by simp [r02_Round.j0])
  | succ kj2 =>
   have H := HA.out
   clear HA
   simp only [r02_Round.j0] at H
   by_cases c5 : x13_2 = true
   ·subst c5
    have H1 : (some (0, 20)) = some (r1, r2) := by rw [if_pos rfl] at H; exact H
    clear H
    have H := H1
    clear H1
    simp only [yZ, ya] at H
    obtain ⟨rfl, rfl⟩ := H
    go_wp2
    go_ret2
    exact ⟨by first | rfl | (simp; done) | (simp [*]; done), by repeat (first | exact Drawn0.refl _ | apply Drawn0.step)⟩
   ·replace c5 := yh.mpr c5
    subst c5
    have H1 : (r02_Round.l0 kj2 a0 a1 1 0) = some (r1, r2) := by rw [if_neg (show ¬ (false = true) by decide)] at H; exact H
    clear H
    have H := H1
    clear H1
    have H' := zK H
    clear H
    go_wp2
    go_loopg [6, 7] kj2 (fun kq v6 v7 w' => ∃ (x6_2 : Int) (x7_2 : Int), v6 = .int .i64 x6_2 ∧ v7 = .int .i64 x7_2 ∧ Aside0 (r02_Round.l0 kq a0 a1 x6_2 x7_2 = some (r1, r2)) ∧ Aside0 (kq ≤ kj2) ∧ Drawn0 w w')
    case atStart => exact ⟨(1), (0), (by first | rfl | (simp; done) | (simp [*]; done)), (by first | rfl | (simp; done) | (simp [*]; done)), H', ⟨yN _⟩, by repeat (first | exact Drawn0.refl _ | apply Drawn0.step)⟩
    case round =>
     clear H'
     try clear c2
     try clear p2
     try clear c4
     try clear c4b0
     try clear c5
     try clear p2
     obtain ⟨x6_2, x7_2, rfl, rfl, HA, HK2, ⟨m2, rfl⟩⟩ := hrel
     cases gk with
     | zero => exact absurd HA.out (by simp [r02_Round.l0])
     | succ k2 =>
      have H := HA.out
      clear HA
      simp only [r02_Round.l0] at H
      by_cases c6 : x7_2 < a1
      ·rw [if_pos c6] at H
       have c6b0 : decide (x7_2 < a1) = true := yC c6
       clear c6
       have H' := zK H
       clear H
       go_wp2
       go_roundg k2
       case measure => have := HJ2.out; have := HK2.out; omega
       case rel => exact ⟨(wrap64 (x6_2 * 2)), (wrap64 (x7_2 + 1)), (by first | rfl | (simp; done) | (simp [*]; done)), (by first | rfl | (simp; done) | (simp [*]; done)), H', ⟨by have := HJ2.out; have := HK2.out; omega⟩, by repeat (first | exact Drawn0.refl _ | apply Drawn0.step)⟩
      ·rw [if_neg c6] at H
       have c6b0 : decide (x7_2 < a1) = false := yD c6
       clear c6
       replace H := yA.mp H
       obtain ⟨⟨t208, t209⟩, A70, H⟩ := H
       replace H : (some (t208, t209)) = some (r1, r2) := H
       have A7 := zK A70
       clear A70
       simp only [yZ, ya] at H
       obtain ⟨rfl, rfl⟩ := H
       go_wp2_with (first | ((with_reducible refine gate_callee (f := 48) rfl ?_); refine goesL_ (some 23) rfl rfl Try.func48 (by kernel_rfl) rfl #[.int .i64 a0, .int .i64 x6_2] rfl (by (try simp only [yH, yI, yJ]); first | done | rfl | (simp only [yG, yF]; rfl)) ?_; (with_reducible refine (r02_Near.calls a0 x6_2 t208 t209 _ A7.out).mono ?_); rintro e w' ⟨rfl, ⟨nd, rfl⟩⟩; refine ⟨_, rfl, ?_⟩))
       go_ret2
       exact ⟨by first | rfl | (simp; done) | (simp [*]; done), by repeat (first | exact Drawn0.refl _ | apply Drawn0.step)⟩

/-! ### r02_Clamp: function 49 -/
def r02_Clamp.f (a0 : Int) (a1 : Int) (a2 : Int) : Option (Int) := if a0 < a1 then (some a1) else (if a0 > a2 then (some a2) else (some a0))
set_option maxHeartbeats 8000000 in
set_option maxRecDepth 100000 in
theorem r02_Clamp.calls (a0 : Int) (a1 : Int) (a2 : Int) (r : Int) (w : World) (h : r02_Clamp.f a0 a1 a2 = some r) :
  Calls Try.prog 49 #[.int .i64 a0, .int .i64 a1, .int .i64 a2] w fun e w' => e = .returned (.int .i64 r) ∧ Drawn0 w w' := by
 have H : (if a0 < a1 then (some a1) else (if a0 > a2 then (some a2) else (some a0))) = some r := h
 clear h
 by_cases c4 : a0 < a1
 ·rw [if_pos c4] at H
  have c4b0 : decide (a0 < a1) = true := yC c4
  clear c4
  obtain rfl := yY H
  go_enter Try.func49, Try.ntmps49
  go_wp2
  go_ret
  exact ⟨by first | rfl | (simp; done) | (simp [*]; done), by repeat (first | exact Drawn0.refl _ | apply Drawn0.step)⟩
 ·rw [if_neg c4] at H
  have c4b0 : decide (a0 < a1) = false := yD c4
  clear c4
  by_cases c5 : a0 > a2
  ·rw [if_pos c5] at H
   have c5b0 : decide (a2 < a0) = true := yC c5
   clear c5
   obtain rfl := yY H
   go_enter Try.func49, Try.ntmps49
   go_wp2
   go_ret
   exact ⟨by first | rfl | (simp; done) | (simp [*]; done), by repeat (first | exact Drawn0.refl _ | apply Drawn0.step)⟩
  ·rw [if_neg c5] at H
   have c5b0 : decide (a2 < a0) = false := yD c5
   clear c5
   obtain rfl := yY H
   go_enter Try.func49, Try.ntmps49
   go_wp2
   go_ret
   exact ⟨by first | rfl | (simp; done) | (simp [*]; done), by repeat (first | exact Drawn0.refl _ | apply Drawn0.step)⟩

/-! ### r02_Narrow: function 29 -/
def r02_Narrow.f (a0 : Int) : Option (Int) := (r02_Clamp.f a0 (-127) 127).bind fun t210 => (some (IntKind.i8.wrap (t210)))
set_option maxHeartbeats 8000000 in
set_option maxRecDepth 100000 in
theorem r02_Narrow.calls (a0 : Int) (r : Int) (w : World) (h : r02_Narrow.f a0 = some r) :
  Calls Try.prog 29 #[.int .i64 a0] w fun e w' => e = .returned (.int .i8 r) ∧ Drawn0 w w' := by
 have H : ((r02_Clamp.f a0 (-127) 127).bind fun t210 => (some (IntKind.i8.wrap (t210)))) = some r := h
 clear h
 replace H := yA.mp H
 obtain ⟨t210, A20, H⟩ := H
 replace H : (some (IntKind.i8.wrap (t210))) = some r := H
 have A2 := zK A20
 clear A20
 obtain rfl := yY H
 go_enter Try.func29, Try.ntmps29
 go_wp2_with (first | ((with_reducible refine gate_callee (f := 49) rfl ?_); refine goesL_ (some 4) rfl rfl Try.func49 (by kernel_rfl) rfl #[.int .i64 a0, .int .i64 (-127), .int .i64 127] rfl (by (try simp only [yH, yI, yJ]); first | done | rfl | (simp only [yG, yF]; rfl)) ?_; (with_reducible refine (r02_Clamp.calls a0 (-127) 127 t210 _ A2.out).mono ?_); rintro e w' ⟨rfl, ⟨nd, rfl⟩⟩; refine ⟨_, rfl, ?_⟩))
 go_ret
 exact ⟨by first | rfl | (simp; done) | (simp [*]; done), by repeat (first | exact Drawn0.refl _ | apply Drawn0.step)⟩

/-! ### r02_Exp2: function 40 -/
mutual
def r02_Exp2.j0 : Nat → Int → Option (Int)
 | 0, _ => none
 | k + 1, x0 => (r02_Floor.f x0 65536).bind fun bt211 => (if (wrap64 (-bt211.1)) ≥ 31 then (some 0) else (r02_Exp2.l0 k (wrap64 (-bt211.1)) (wrap64 (1073741824 + (wrap64 (Int.tdiv (wrap64 ((wrap64 (747400624 + (wrap64 (Int.tdiv (wrap64 ((wrap64 (241400000 + (wrap64 (Int.tdiv (wrap64 (84941200 * bt211.2.1)) 65536)))) * bt211.2.1)) 65536)))) * bt211.2.1)) 65536)))) 0))
def r02_Exp2.l0 : Nat → Int → Int → Int → Option (Int)
 | 0, _, _, _ => none
 | k + 1, x6, x9, x10 => if x10 < x6 then (r02_Exp2.l0 k x6 (wrap64 (Int.tdiv x9 2)) (wrap64 (x10 + 1))) else (some x9)
end
def r02_Exp2.f (k : Nat) (a0 : Int) : Option (Int) := if a0 > 0 then (r02_Exp2.j0 k 0) else (r02_Exp2.j0 k a0)
theorem r02_Exp2.mono_l : ∀ k, (∀ y0, LeO (r02_Exp2.j0 k y0) (r02_Exp2.j0 (k + 1) y0)) ∧ (∀ y0 y1 y2, LeO (r02_Exp2.l0 k y0 y1 y2) (r02_Exp2.l0 (k + 1) y0 y1 y2))
 | 0 => ⟨fun _ r h => by simp [r02_Exp2.j0] at h, fun _ _ _ r h => by simp [r02_Exp2.l0] at h⟩
 | k + 1 => by
  obtain ⟨ih0, ih1⟩ := r02_Exp2.mono_l k
  refine ⟨?_, ?_⟩ <;> (intros; first | unfold r02_Exp2.j0 | unfold r02_Exp2.l0)
  all_goals repeat' first
   | (with_reducible exact ih0 _)
   | (with_reducible exact ih1 _ _ _)
   | (with_reducible exact yR _)
   | (with_reducible exact yO _)
   | (with_reducible refine yQ ?_ ?_)
   | (with_reducible refine yP ?_ (fun _ => ?_))
   | exact ih0 _
   | exact ih1 _ _ _
   | exact yO _
   | refine yQ ?_ ?_
   | refine yP ?_ (fun _ => ?_)
theorem r02_Exp2.mono : ∀ a0 k, LeO (r02_Exp2.f k a0) (r02_Exp2.f (k + 1) a0) := by
 intro a0 k
 obtain ⟨ih0, ih1⟩ := r02_Exp2.mono_l k
 unfold r02_Exp2.f
 repeat' first
   | (with_reducible exact ih0 _)
   | (with_reducible exact ih1 _ _ _)
   | (with_reducible exact yR _)
   | (with_reducible exact yO _)
   | (with_reducible refine yQ ?_ ?_)
   | (with_reducible refine yP ?_ (fun _ => ?_))
   | exact ih0 _
   | exact ih1 _ _ _
   | exact yO _
   | refine yQ ?_ ?_
   | refine yP ?_ (fun _ => ?_)
set_option maxHeartbeats 8000000 in
set_option maxRecDepth 100000 in
theorem r02_Exp2.calls (k : Nat) (a0 : Int) (r : Int) (w : World) (h : r02_Exp2.f k a0 = some r) :
  Calls Try.prog 40 #[.int .i64 a0] w fun e w' => e = .returned (.int .i64 r) ∧ Drawn0 w w' := by
 have H : (if a0 > 0 then (r02_Exp2.j0 k 0) else (r02_Exp2.j0 k a0)) = some r := h
 clear h
 have HC2 := zK H
 clear H
 go_enter Try.func40, Try.ntmps40
 go_upto_if 12 with (fail)
 go_cut [0] (fun v0 wc => ∃ (kq : Nat) (x0_1 : Int), v0 = .int .i64 x0_1 ∧ Aside0 (r02_Exp2.j0 kq x0_1 = some r) ∧ Aside0 (kq ≤ k) ∧ Drawn0 w wc)
 case first =>
  have H := HC2.out
  clear HC2
  by_cases c3 : a0 > 0
  ·rw [if_pos c3] at H
   have c3b0 : decide (0 < a0) = true := yC c3
   clear c3
   (first | rw [c3b0] | (simp only [i64_w, i32_w]; rw [c3b0]) | skip)
   have H' := zK H
   clear H
   go_wp2
   go_meet
   case rel => exact ⟨_, (0), (by first | rfl | (simp; done) | (simp [*]; done)), H', ⟨by first | omega | exact yN _⟩, by repeat (first | exact Drawn0.refl _ | apply Drawn0.step)⟩
  ·rw [if_neg c3] at H
   have c3b0 : decide (0 < a0) = false := yD c3
   clear c3
   (first | rw [c3b0] | (simp only [i64_w, i32_w]; rw [c3b0]) | skip)
   have H' := zK H
   clear H
   go_wp2
   go_meet
   case rel => exact ⟨_, (a0), (by first | rfl | (simp; done) | (simp [*]; done)), H', ⟨by first | omega | exact yN _⟩, by repeat (first | exact Drawn0.refl _ | apply Drawn0.step)⟩
 case rest =>
  clear HC2
  try clear p2
  try clear c3
  try clear c3b0
  obtain ⟨kq, x0_1, rfl, HA, HJ1, ⟨mc1, rfl⟩⟩ := hcut
  cases kq with
  | zero => exact absurd HA.out (by simp [r02_Exp2.j0])
  | succ kj1 =>
   have H := HA.out
   clear HA
   simp only [r02_Exp2.j0] at H
   replace H := yA.mp H
   obtain ⟨⟨t211, t212, t213⟩, A40, H⟩ := H
   replace H : (if (wrap64 (-t211)) ≥ 31 then (some 0) else (r02_Exp2.l0 kj1 (wrap64 (-t211)) (wrap64 (1073741824 + (wrap64 (Int.tdiv (wrap64 ((wrap64 (747400624 + (wrap64 (Int.tdiv (wrap64 ((wrap64 (241400000 + (wrap64 (Int.tdiv (wrap64 (84941200 * t212)) 65536)))) * t212)) 65536)))) * t212)) 65536)))) 0)) = some r := H
   have A4 := zK A40
   clear A40
   by_cases c5 : (wrap64 (-t211)) ≥ 31
   ·rw [if_pos c5] at H
    have c5b0 : decide (31 ≤ (wrap64 (-t211))) = true := yC c5
    clear c5
    obtain rfl := yY H
    go_wp2_with (first | ((with_reducible refine gate_callee (f := 60) rfl ?_); refine goesL_ (some 15) rfl rfl Try.func60 (by kernel_rfl) rfl #[.int .i64 x0_1, .int .i64 65536] rfl (by (try simp only [yH, yI, yJ]); first | done | rfl | (simp only [yG, yF]; rfl)) ?_; (with_reducible refine (r02_Floor.calls x0_1 65536 t211 t212 t213 _ A4.out).mono ?_); rintro e w' ⟨rfl, ⟨nd, rfl⟩⟩; refine ⟨_, rfl, ?_⟩))
    go_ret
    exact ⟨by first | rfl | (simp; done) | (simp [*]; done), by repeat (first | exact Drawn0.refl _ | apply Drawn0.step)⟩
   ·rw [if_neg c5] at H
    have c5b0 : decide (31 ≤ (wrap64 (-t211))) = false := yD c5
    clear c5
    have H' := zK H
    clear H
    go_wp2_with (first | ((with_reducible refine gate_callee (f := 60) rfl ?_); refine goesL_ (some 15) rfl rfl Try.func60 (by kernel_rfl) rfl #[.int .i64 x0_1, .int .i64 65536] rfl (by (try simp only [yH, yI, yJ]); first | done | rfl | (simp only [yG, yF]; rfl)) ?_; (with_reducible refine (r02_Floor.calls x0_1 65536 t211 t212 t213 _ A4.out).mono ?_); rintro e w' ⟨rfl, ⟨nd, rfl⟩⟩; refine ⟨_, rfl, ?_⟩))
    go_loopg [9, 10] kj1 (fun kq v9 v10 w' => ∃ (x9_2 : Int) (x10_2 : Int), v9 = .int .i64 x9_2 ∧ v10 = .int .i64 x10_2 ∧ Aside0 (r02_Exp2.l0 kq (wrap64 (-t211)) x9_2 x10_2 = some r) ∧ Aside0 (kq ≤ kj1) ∧ Drawn0 w w')
    case atStart => exact ⟨(wrap64 (1073741824 + (wrap64 (Int.tdiv (wrap64 ((wrap64 (747400624 + (wrap64 (Int.tdiv (wrap64 ((wrap64 (241400000 + (wrap64 (Int.tdiv (wrap64 (84941200 * t212)) 65536)))) * t212)) 65536)))) * t212)) 65536)))), (0), (by first | rfl | (simp; done) | (simp [*]; done)), (by first | rfl | (simp; done) | (simp [*]; done)), H', ⟨yN _⟩, by repeat (first | exact Drawn0.refl _ | apply Drawn0.step)⟩
    case round =>
     clear H'
     try clear c1
     try clear p2
     try clear c3
     try clear c3b0
     try clear c4
     try clear c5
     try clear c5b0
     try clear p2
     obtain ⟨x9_2, x10_2, rfl, rfl, HA, HK2, ⟨m2, rfl⟩⟩ := hrel
     cases gk with
     | zero => exact absurd HA.out (by simp [r02_Exp2.l0])
     | succ k2 =>
      have H := HA.out
      clear HA
      simp only [r02_Exp2.l0] at H
      by_cases c6 : x10_2 < (wrap64 (-t211))
      ·rw [if_pos c6] at H
       have c6b0 : decide (x10_2 < (wrap64 (-t211))) = true := yC c6
       clear c6
       have H' := zK H
       clear H
       go_wp2
       go_roundg k2
       case measure => have := HJ1.out; have := HK2.out; omega
       case rel => exact ⟨(wrap64 (Int.tdiv x9_2 2)), (wrap64 (x10_2 + 1)), (by first | rfl | (simp; done) | (simp [*]; done)), (by first | rfl | (simp; done) | (simp [*]; done)), H', ⟨by have := HJ1.out; have := HK2.out; omega⟩, by repeat (first | exact Drawn0.refl _ | apply Drawn0.step)⟩
      ·rw [if_neg c6] at H
       have c6b0 : decide (x10_2 < (wrap64 (-t211))) = false := yD c6
       clear c6
       obtain rfl := yY H
       go_wp2
       go_ret
       exact ⟨by first | rfl | (simp; done) | (simp [*]; done), by repeat (first | exact Drawn0.refl _ | apply Drawn0.step)⟩

/-! ### r12_part: function 45 -/
def r12_part.f : Nat → Int → Option (Int)
 | 0, _ => none
 | k + 1, a0 => if a0 < 0 then ((r12_part.f k (wrap64 (-a0))).bind fun t214 => (some (wrap64 (64 - t214)))) else ((r02_Exp2.f k (wrap64 ((-8192) * a0))).bind fun t215 => ((r02_Floor.f 68719476736 (wrap64 (1073741824 + t215))).bind fun bt216 => (some bt216.1)))
theorem r12_part.mono_l : ∀ k, (∀ y0, LeO (r12_part.f k y0) (r12_part.f (k + 1) y0))
 | 0 => fun _ r h => by simp [r12_part.f] at h
 | k + 1 => by
  have ih0 := r12_part.mono_l k
  intros
  unfold r12_part.f
  all_goals repeat' first
   | (with_reducible exact ih0 _)
   | (with_reducible exact r02_Exp2.mono _ _)
   | (with_reducible exact yR _)
   | (with_reducible exact yO _)
   | (with_reducible refine yQ ?_ ?_)
   | (with_reducible refine yP ?_ (fun _ => ?_))
   | exact ih0 _
   | exact r02_Exp2.mono _ _
   | exact yO _
   | refine yQ ?_ ?_
   | refine yP ?_ (fun _ => ?_)
theorem r12_part.mono : ∀ a0 k, LeO (r12_part.f k a0) (r12_part.f (k + 1) a0) := by
 intro a0 k
 have ih0 := r12_part.mono_l k
 exact ih0 a0
set_option maxHeartbeats 8000000 in
set_option maxRecDepth 100000 in
theorem r12_part.calls (k : Nat) : ∀ (a0 : Int) (r : Int) (w : World) (h : r12_part.f k a0 = some r),
  Calls Try.prog 45 #[.int .i64 a0] w fun e w' => e = .returned (.int .i64 r) ∧ Drawn0 w w' := by
 induction k using Nat.strongRecOn with
 | _ k ih =>
 intro a0 r w h
 cases k with
 | zero => exact absurd h (by simp [r12_part.f])
 | succ k =>
 simp only [r12_part.f] at h
 have H : (if a0 < 0 then ((r12_part.f k (wrap64 (-a0))).bind fun t214 => (some (wrap64 (64 - t214)))) else ((r02_Exp2.f k (wrap64 ((-8192) * a0))).bind fun t215 => ((r02_Floor.f 68719476736 (wrap64 (1073741824 + t215))).bind fun bt216 => (some bt216.1)))) = some r := h
 clear h
 by_cases c2 : a0 < 0
 ·rw [if_pos c2] at H
  have c2b0 : decide (a0 < 0) = true := yC c2
  clear c2
  replace H := yA.mp H
  obtain ⟨t214, A30, H⟩ := H
  replace H : (some (wrap64 (64 - t214))) = some r := H
  have A3 := zK A30
  clear A30
  obtain rfl := yY H
  go_enter Try.func45, Try.ntmps45
  go_wp2_with (first | ((with_reducible refine gate_callee (f := 45) rfl ?_); refine goesL_ (some 10) rfl rfl Try.func45 (by kernel_rfl) rfl #[.int .i64 (wrap64 (-a0))] rfl (by (try simp only [yH, yI, yJ]); first | done | rfl | (simp only [yG, yF]; rfl)) ?_; (with_reducible refine (ih k (by omega) (wrap64 (-a0)) t214 _ A3.out).mono ?_); rintro e w' ⟨rfl, ⟨nd, rfl⟩⟩; refine ⟨_, rfl, ?_⟩))
  go_ret
  exact ⟨by first | rfl | (simp; done) | (simp [*]; done), by repeat (first | exact Drawn0.refl _ | apply Drawn0.step)⟩
 ·rw [if_neg c2] at H
  have c2b0 : decide (a0 < 0) = false := yD c2
  clear c2
  replace H := yA.mp H
  obtain ⟨t215, A40, H⟩ := H
  replace H : ((r02_Floor.f 68719476736 (wrap64 (1073741824 + t215))).bind fun bt216 => (some bt216.1)) = some r := H
  have A4 := zK A40
  clear A40
  replace H := yA.mp H
  obtain ⟨⟨t216, t217, t218⟩, A50, H⟩ := H
  replace H : (some t216) = some r := H
  have A5 := zK A50
  clear A50
  obtain rfl := yY H
  go_enter Try.func45, Try.ntmps45
  go_wp2_with (first | ((with_reducible refine gate_callee (f := 40) rfl ?_); refine goesL_ (some 15) rfl rfl Try.func40 (by kernel_rfl) rfl #[.int .i64 (wrap64 ((-8192) * a0))] rfl (by (try simp only [yH, yI, yJ]); first | done | rfl | (simp only [yG, yF]; rfl)) ?_; (with_reducible refine (r02_Exp2.calls k (wrap64 ((-8192) * a0)) t215 _ A4.out).mono ?_); rintro e w' ⟨rfl, ⟨nd, rfl⟩⟩; refine ⟨_, rfl, ?_⟩) | ((with_reducible refine gate_callee (f := 60) rfl ?_); refine goesL_ (some 17) rfl rfl Try.func60 (by kernel_rfl) rfl #[.int .i64 68719476736, .int .i64 (wrap64 (1073741824 + t215))] rfl (by (try simp only [yH, yI, yJ]); first | done | rfl | (simp only [yG, yF]; rfl)) ?_; (with_reducible refine (r02_Floor.calls 68719476736 (wrap64 (1073741824 + t215)) t216 t217 t218 _ A5.out).mono ?_); rintro e w' ⟨rfl, ⟨nd, rfl⟩⟩; refine ⟨_, rfl, ?_⟩))
  go_ret
  exact ⟨by first | rfl | (simp; done) | (simp [*]; done), by repeat (first | exact Drawn0.refl _ | apply Drawn0.step)⟩

/-! ### r12_bent: function 26 -/
def r12_bent.j0 : Nat → Int → Int → Bool → Option (Int)
 | 0, _, _, _ => none
 | k + 1, x1, x5, x21 => if x21 = true then ((r02_Narrow.f x1).bind fun t223 => (some t223)) else (if x1 > 0 then ((r02_Round.f k (wrap64 (x1 * x1)) 7).bind fun bt224 => ((r02_Narrow.f bt224.1).bind fun t226 => (some t226))) else ((r02_Narrow.f x5).bind fun t227 => (some t227)))
def r12_bent.f (k : Nat) (a0 : Int) (a1 : Int) : Option (Int) := if a0 = 2 then ((r12_part.f k a1).bind fun t219 => ((r02_Round.f k (wrap64 (a1 * t219)) 6).bind fun bt220 => ((r02_Narrow.f bt220.1).bind fun t222 => (some t222)))) else (if a1 > 0 then (r12_bent.j0 k a1 0 (a0 == 1)) else (r12_bent.j0 k a1 0 false))
theorem r12_bent.mono_l : ∀ k, (∀ y0 y1 y2, LeO (r12_bent.j0 k y0 y1 y2) (r12_bent.j0 (k + 1) y0 y1 y2))
 | 0 => fun _ _ _ r h => by simp [r12_bent.j0] at h
 | k + 1 => by
  have ih0 := r12_bent.mono_l k
  intros
  unfold r12_bent.j0
  all_goals repeat' first
   | (with_reducible exact ih0 _ _ _)
   | (with_reducible exact r02_Round.mono _ _ _)
   | (with_reducible exact r12_part.mono _ _)
   | (with_reducible exact yR _)
   | (with_reducible exact yO _)
   | (with_reducible refine yQ ?_ ?_)
   | (with_reducible refine yP ?_ (fun _ => ?_))
   | exact ih0 _ _ _
   | exact r02_Round.mono _ _ _
   | exact r12_part.mono _ _
   | exact yO _
   | refine yQ ?_ ?_
   | refine yP ?_ (fun _ => ?_)
theorem r12_bent.mono : ∀ a0 a1 k, LeO (r12_bent.f k a0 a1) (r12_bent.f (k + 1) a0 a1) := by
 intro a0 a1 k
 have ih0 := r12_bent.mono_l k
 unfold r12_bent.f
 repeat' first
   | (with_reducible exact ih0 _ _ _)
   | (with_reducible exact r02_Round.mono _ _ _)
   | (with_reducible exact r12_part.mono _ _)
   | (with_reducible exact yR _)
   | (with_reducible exact yO _)
   | (with_reducible refine yQ ?_ ?_)
   | (with_reducible refine yP ?_ (fun _ => ?_))
   | exact ih0 _ _ _
   | exact r02_Round.mono _ _ _
   | exact r12_part.mono _ _
   | exact yO _
   | refine yQ ?_ ?_
   | refine yP ?_ (fun _ => ?_)
set_option maxHeartbeats 8000000 in
set_option maxRecDepth 100000 in
theorem r12_bent.calls (k : Nat) (a0 : Int) (a1 : Int) (r : Int) (w : World) (h : r12_bent.f k a0 a1 = some r) :
  Calls Try.prog 26 #[.int .i64 a0, .int .i64 a1] w fun e w' => e = .returned (.int .i8 r) ∧ Drawn0 w w' := by
 have H : (if a0 = 2 then ((r12_part.f k a1).bind fun t219 => ((r02_Round.f k (wrap64 (a1 * t219)) 6).bind fun bt220 => ((r02_Narrow.f bt220.1).bind fun t222 => (some t222)))) else (if a1 > 0 then (r12_bent.j0 k a1 0 (a0 == 1)) else (r12_bent.j0 k a1 0 false))) = some r := h
 clear h
 by_cases c3 : a0 = 2
 ·rw [if_pos c3] at H
  have c3b0 : (a0 == 2) = true := beq_iff_eq.mpr c3
  have c3b1 : (a0 != 2) = false := bne_eq_false_iff_eq.mpr c3
  clear c3
  replace H := yA.mp H
  obtain ⟨t219, A40, H⟩ := H
  replace H : ((r02_Round.f k (wrap64 (a1 * t219)) 6).bind fun bt220 => ((r02_Narrow.f bt220.1).bind fun t222 => (some t222))) = some r := H
  have A4 := zK A40
  clear A40
  replace H := yA.mp H
  obtain ⟨⟨t220, t221⟩, A50, H⟩ := H
  replace H : ((r02_Narrow.f t220).bind fun t222 => (some t222)) = some r := H
  have A5 := zK A50
  clear A50
  replace H := yA.mp H
  obtain ⟨t222, A60, H⟩ := H
  replace H : (some t222) = some r := H
  have A6 := zK A60
  clear A60
  obtain rfl := yY H
  go_enter Try.func26, Try.ntmps26
  go_wp2_with (first | ((with_reducible refine gate_callee (f := 45) rfl ?_); refine goesL_ (some 11) rfl rfl Try.func45 (by kernel_rfl) rfl #[.int .i64 a1] rfl (by (try simp only [yH, yI, yJ]); first | done | rfl | (simp only [yG, yF]; rfl)) ?_; (with_reducible refine (r12_part.calls k a1 t219 _ A4.out).mono ?_); rintro e w' ⟨rfl, ⟨nd, rfl⟩⟩; refine ⟨_, rfl, ?_⟩) | ((with_reducible refine gate_callee (f := 28) rfl ?_); refine goesL_ (some 13) rfl rfl Try.func28 (by kernel_rfl) rfl #[.int .i64 (wrap64 (a1 * t219)), .int .i64 6] rfl (by (try simp only [yH, yI, yJ]); first | done | rfl | (simp only [yG, yF]; rfl)) ?_; (with_reducible refine (r02_Round.calls k (wrap64 (a1 * t219)) 6 t220 t221 _ A5.out).mono ?_); rintro e w' ⟨rfl, ⟨nd, rfl⟩⟩; refine ⟨_, rfl, ?_⟩) | ((with_reducible refine gate_callee (f := 29) rfl ?_); refine goesL_ (some 33) rfl rfl Try.func29 (by kernel_rfl) rfl #[.int .i64 t220] rfl (by (try simp only [yH, yI, yJ]); first | done | rfl | (simp only [yG, yF]; rfl)) ?_; (with_reducible refine (r02_Narrow.calls t220 t222 _ A6.out).mono ?_); rintro e w' ⟨rfl, ⟨nd, rfl⟩⟩; refine ⟨_, rfl, ?_⟩))
  go_ret
  exact ⟨by first | rfl | (simp; done) | (simp [*]; done), by repeat (first | exact Drawn0.refl _ | apply Drawn0.step)⟩
 ·rw [if_neg c3] at H
  have c3b0 : (a0 == 2) = false := beq_eq_false_iff_ne.mpr c3
  have c3b1 : (a0 != 2) = true := bne_iff_ne.mpr c3
  have HC7 := zK H
  clear H
  go_enter Try.func26, Try.ntmps26
  go_upto_region 4 with (fail)
  go_cut [21] (fun v21 wc => ∃ (kq : Nat) (x21_6 : Bool), v21 = .bool x21_6 ∧ Aside0 (r12_bent.j0 kq a1 0 x21_6 = some r) ∧ Aside0 (kq ≤ k) ∧ Drawn0 w wc)
  case first =>
   have H := HC7.out
   clear HC7
   by_cases c8 : a1 > 0
   ·rw [if_pos c8] at H
    have c8b0 : decide (0 < a1) = true := yC c8
    clear c8
    (first | rw [c8b0] | (simp only [i64_w, i32_w]; rw [c8b0]) | skip)
    have H' := zK H
    clear H
    go_wp2
    go_meet
    case rel => exact ⟨_, ((a0 == 1)), (by first | rfl | (simp; done) | (simp [*]; done)), H', ⟨by first | omega | exact yN _⟩, by repeat (first | exact Drawn0.refl _ | apply Drawn0.step)⟩
   ·rw [if_neg c8] at H
    have c8b0 : decide (0 < a1) = false := yD c8
    clear c8
    (first | rw [c8b0] | (simp only [i64_w, i32_w]; rw [c8b0]) | skip)
    have H' := zK H
    clear H
    go_wp2
    go_meet
    case rel => exact ⟨_, (false), (by first | rfl | (simp; done) | (simp [*]; done)), H', ⟨by first | omega | exact yN _⟩, by repeat (first | exact Drawn0.refl _ | apply Drawn0.step)⟩
  case rest =>
   clear HC7
   try clear c2
   try clear p2
   try clear c3
   try clear c3b0
   try clear c3b1
   try clear c4
   try clear p6
   try clear c8
   try clear c8b0
   obtain ⟨kq, x21_6, rfl, HA, HJ6, ⟨mc6, rfl⟩⟩ := hcut
   cases kq with
   | zero => exact absurd HA.out (by simp [r12_bent.j0])
   | succ kj6 =>
    have H := HA.out
    clear HA
    simp only [r12_bent.j0] at H
    by_cases c9 : x21_6 = true
    ·subst c9
     have H1 : ((r02_Narrow.f a1).bind fun t223 => (some t223)) = some r := by rw [if_pos rfl] at H; exact H
     clear H
     have H := H1
     clear H1
     replace H := yA.mp H
     obtain ⟨t223, A100, H⟩ := H
     replace H : (some t223) = some r := H
     have A10 := zK A100
     clear A100
     obtain rfl := yY H
     go_wp2_with (first | ((with_reducible refine gate_callee (f := 29) rfl ?_); refine goesL_ (some 33) rfl rfl Try.func29 (by kernel_rfl) rfl #[.int .i64 a1] rfl (by (try simp only [yH, yI, yJ]); first | done | rfl | (simp only [yG, yF]; rfl)) ?_; (with_reducible refine (r02_Narrow.calls a1 t223 _ A10.out).mono ?_); rintro e w' ⟨rfl, ⟨nd, rfl⟩⟩; refine ⟨_, rfl, ?_⟩))
     go_ret
     exact ⟨by first | rfl | (simp; done) | (simp [*]; done), by repeat (first | exact Drawn0.refl _ | apply Drawn0.step)⟩
    ·replace c9 := yh.mpr c9
     subst c9
     have H1 : (if a1 > 0 then ((r02_Round.f kj6 (wrap64 (a1 * a1)) 7).bind fun bt224 => ((r02_Narrow.f bt224.1).bind fun t226 => (some t226))) else ((r02_Narrow.f 0).bind fun t227 => (some t227))) = some r := by rw [if_neg (show ¬ (false = true) by decide)] at H; exact H
     clear H
     have H := H1
     clear H1
     by_cases c11 : a1 > 0
     ·rw [if_pos c11] at H
      have c11b0 : decide (0 < a1) = true := yC c11
      clear c11
      replace H := yA.mp H
      obtain ⟨⟨t224, t225⟩, A120, H⟩ := H
      replace H : ((r02_Narrow.f t224).bind fun t226 => (some t226)) = some r := H
      have A12 := zK A120
      clear A120
      replace H := yA.mp H
      obtain ⟨t226, A130, H⟩ := H
      replace H : (some t226) = some r := H
      have A13 := zK A130
      clear A130
      obtain rfl := yY H
      go_wp2_with (first | ((with_reducible refine gate_callee (f := 28) rfl ?_); refine goesL_ (some 29) rfl rfl Try.func28 (by kernel_rfl) rfl #[.int .i64 (wrap64 (a1 * a1)), .int .i64 7] rfl (by (try simp only [yH, yI, yJ]); first | done | rfl | (simp only [yG, yF]; rfl)) ?_; (with_reducible refine (r02_Round.calls kj6 (wrap64 (a1 * a1)) 7 t224 t225 _ A12.out).mono ?_); rintro e w' ⟨rfl, ⟨nd, rfl⟩⟩; refine ⟨_, rfl, ?_⟩) | ((with_reducible refine gate_callee (f := 29) rfl ?_); refine goesL_ (some 33) rfl rfl Try.func29 (by kernel_rfl) rfl #[.int .i64 t224] rfl (by (try simp only [yH, yI, yJ]); first | done | rfl | (simp only [yG, yF]; rfl)) ?_; (with_reducible refine (r02_Narrow.calls t224 t226 _ A13.out).mono ?_); rintro e w' ⟨rfl, ⟨nd, rfl⟩⟩; refine ⟨_, rfl, ?_⟩))
      go_ret
      exact ⟨by first | rfl | (simp; done) | (simp [*]; done), by repeat (first | exact Drawn0.refl _ | apply Drawn0.step)⟩
     ·rw [if_neg c11] at H
      have c11b0 : decide (0 < a1) = false := yD c11
      clear c11
      replace H := yA.mp H
      obtain ⟨t227, A140, H⟩ := H
      replace H : (some t227) = some r := H
      have A14 := zK A140
      clear A140
      obtain rfl := yY H
      go_wp2_with (first | ((with_reducible refine gate_callee (f := 29) rfl ?_); refine goesL_ (some 33) rfl rfl Try.func29 (by kernel_rfl) rfl #[.int .i64 0] rfl (by (try simp only [yH, yI, yJ]); first | done | rfl | (simp only [yG, yF]; rfl)) ?_; (with_reducible refine (r02_Narrow.calls 0 t227 _ A14.out).mono ?_); rintro e w' ⟨rfl, ⟨nd, rfl⟩⟩; refine ⟨_, rfl, ?_⟩))
      go_ret
      exact ⟨by first | rfl | (simp; done) | (simp [*]; done), by repeat (first | exact Drawn0.refl _ | apply Drawn0.step)⟩

end Go.Proofs.Ytjcfhgpaipbedaa.A
