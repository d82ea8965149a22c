-- Printed by this session's own driver (wip/tools/xprint.py) over the kit's printer; given functions are this session's own.
import Derived.Test.YthmckhfjaleomaaT0
import Derived.Test.YthmckhfjaleomaaT6
import Derived.Test.YthmckhfjaleomaaT14
import Derived.Test.YthmckhfjaleomaaT29
import Derived.Test.YthmckhfjaleomaaT30
import Derived.Test.YthmckhfjaleomaaT31
namespace Go.Proofs.Ythmckhfjaleomaa.T
open Go.RowKit Go.Proofs.YthmckhfjaleomaaW.PrintWords Go.Proofs.YthmckhfjaleomaaW.PrintLast Go.Proofs.YthmckhfjaleomaaW.PrintMore
attribute [local go_sem] max2_int min2_int max_two min_two max_three min_three max_four min_four   -- for this text's walks alone
set_option linter.unusedVariables false
set_option linter.unusedSimpArgs false

/-! ### w22_DistSurprises: function 11 -/
def w22_DistSurprises.j0 : Nat → List Int → List Int → Bool → Option (Bool)
  | 0, _, _, _ => none
  | k + 1, x0, x5, x34 => if x34 = true then (some false) else ((dist_Entropy.f k x5).bind fun bt746 => ((r22_Entropy.f k x0).bind fun bt748 => (if bt746.1 = bt748.1 then (if bt746.2 = bt748.2 then ((w22_same.f k x5 x0).bind fun t750 => (some t750)) else (some false)) else (some false))))
def w22_DistSurprises.f (k : Nat) (l0 : List Int) (a1 : Int) : Option (Bool) := (w22_awake.f k).bind fun t735 => (if t735 = true then ((some (([] : List Int) : List Int)).bind fun y736 => (if y736.length + l0.length < 17592186044416 then ((some (y736 ++ l0 : List Int)).bind fun y739 => ((dist_Surprise.f k y739 a1).bind fun bt742 => ((r22_Surprise.f k l0 a1).bind fun bt744 => (if bt742.1 = bt744.1 then (w22_DistSurprises.j0 k l0 y739 (bt742.2 != bt744.2)) else (w22_DistSurprises.j0 k l0 y739 true))))) else (none))) else (some false))
theorem w22_DistSurprises.mono_l : ∀ k, (∀ y0 y1 y2, LeO (w22_DistSurprises.j0 k y0 y1 y2) (w22_DistSurprises.j0 (k + 1) y0 y1 y2))
  | 0 => fun _ _ _ r h => by simp [w22_DistSurprises.j0] at h
  | k + 1 => by
    have ih0 := w22_DistSurprises.mono_l k
    intros
    unfold w22_DistSurprises.j0
    all_goals repeat' first
      | (with_reducible exact ih0 _ _ _)
      | (with_reducible exact dist_Entropy.mono _ _)
      | (with_reducible exact dist_Surprise.mono _ _ _)
      | (with_reducible exact r22_Entropy.mono _ _)
      | (with_reducible exact r22_Surprise.mono _ _ _)
      | (with_reducible exact w22_awake.mono _)
      | (with_reducible exact w22_same.mono _ _ _)
      | (with_reducible exact yR _)
      | (with_reducible exact yO _)
      | (with_reducible refine yQ ?_ ?_)
      | (with_reducible refine yP ?_ (fun _ => ?_))
      | exact ih0 _ _ _
      | exact dist_Entropy.mono _ _
      | exact dist_Surprise.mono _ _ _
      | exact r22_Entropy.mono _ _
      | exact r22_Surprise.mono _ _ _
      | exact w22_awake.mono _
      | exact w22_same.mono _ _ _
      | exact yO _
      | refine yQ ?_ ?_
      | refine yP ?_ (fun _ => ?_)
theorem w22_DistSurprises.mono : ∀ a0 a1 k, LeO (w22_DistSurprises.f k a0 a1) (w22_DistSurprises.f (k + 1) a0 a1) := by
  intro a0 a1 k
  have ih0 := w22_DistSurprises.mono_l k
  unfold w22_DistSurprises.f
  repeat' first
      | (with_reducible exact ih0 _ _ _)
      | (with_reducible exact dist_Entropy.mono _ _)
      | (with_reducible exact dist_Surprise.mono _ _ _)
      | (with_reducible exact r22_Entropy.mono _ _)
      | (with_reducible exact r22_Surprise.mono _ _ _)
      | (with_reducible exact w22_awake.mono _)
      | (with_reducible exact w22_same.mono _ _ _)
      | (with_reducible exact yR _)
      | (with_reducible exact yO _)
      | (with_reducible refine yQ ?_ ?_)
      | (with_reducible refine yP ?_ (fun _ => ?_))
      | exact ih0 _ _ _
      | exact dist_Entropy.mono _ _
      | exact dist_Surprise.mono _ _ _
      | exact r22_Entropy.mono _ _
      | exact r22_Surprise.mono _ _ _
      | exact w22_awake.mono _
      | exact w22_same.mono _ _ _
      | exact yO _
      | refine yQ ?_ ?_
      | refine yP ?_ (fun _ => ?_)
set_option maxHeartbeats 8000000 in
set_option maxRecDepth 100000 in
theorem w22_DistSurprises.calls (k : Nat) (A0 : Option Addr) (c0 : Nat) (l0 : List Int) (a1 : Int) (r : Bool) (w : World) (hr0 : Kd.C (Kd.int .i64) w A0 l0.length l0) (hc0 : l0.length ≤ c0) (h : w22_DistSurprises.f k l0 a1 = some r) :
    Calls Try.prog 11 #[.slice A0 l0.length c0, .int .i64 a1] w fun e w' => e = .returned (.bool r) ∧ Below w.heap.size w w' := by
  have HR0 := zK hr0
  have HC0 := zK hc0
  clear hr0 hc0
  have HB := zK (Below.refl w.heap.size w)
  have H : ((w22_awake.f k).bind fun t735 => (if t735 = true then ((some (([] : List Int) : List Int)).bind fun y736 => (if y736.length + l0.length < 17592186044416 then ((some (y736 ++ l0 : List Int)).bind fun y739 => ((dist_Surprise.f k y739 a1).bind fun bt742 => ((r22_Surprise.f k l0 a1).bind fun bt744 => (if bt742.1 = bt744.1 then (w22_DistSurprises.j0 k l0 y739 (bt742.2 != bt744.2)) else (w22_DistSurprises.j0 k l0 y739 true))))) else (none))) else (some false))) = some r := h
  clear h
  replace H := yA.mp H
  obtain ⟨t735, A30, H⟩ := H
  replace H : (if t735 = true then ((some (([] : List Int) : List Int)).bind fun y736 => (if y736.length + l0.length < 17592186044416 then ((some (y736 ++ l0 : List Int)).bind fun y739 => ((dist_Surprise.f k y739 a1).bind fun bt742 => ((r22_Surprise.f k l0 a1).bind fun bt744 => (if bt742.1 = bt744.1 then (w22_DistSurprises.j0 k l0 y739 (bt742.2 != bt744.2)) else (w22_DistSurprises.j0 k l0 y739 true))))) else (none))) else (some false)) = some r := H
  have A3 := zK A30
  clear A30
  by_cases c4 : t735 = true
  ·subst c4
   have H1 : ((some (([] : List Int) : List Int)).bind fun y736 => (if y736.length + l0.length < 17592186044416 then ((some (y736 ++ l0 : List Int)).bind fun y739 => ((dist_Surprise.f k y739 a1).bind fun bt742 => ((r22_Surprise.f k l0 a1).bind fun bt744 => (if bt742.1 = bt744.1 then (w22_DistSurprises.j0 k l0 y739 (bt742.2 != bt744.2)) else (w22_DistSurprises.j0 k l0 y739 true))))) else (none))) = some r := by rw [if_pos rfl] at H; exact H
   clear H
   have H := H1
   clear H1
   obtain ⟨y736, hy736⟩ : ∃ y_ : List Int, y_ = (([] : List Int)) := ⟨_, rfl⟩
   replace H : (if y736.length + l0.length < 17592186044416 then ((some (y736 ++ l0 : List Int)).bind fun y739 => ((dist_Surprise.f k y739 a1).bind fun bt742 => ((r22_Surprise.f k l0 a1).bind fun bt744 => (if bt742.1 = bt744.1 then (w22_DistSurprises.j0 k l0 y739 (bt742.2 != bt744.2)) else (w22_DistSurprises.j0 k l0 y739 true))))) else (none)) = some r := by first | (rw [hy736]; with_reducible exact H) | (have H2_ := (yV _ _).symm.trans H; rw [hy736]; with_reducible exact H2_) | (have H2_ := (yV _ _).symm.trans H; with_reducible exact H2_) | with_reducible exact H | (rw [hy736]; exact H) | exact H
   have Ny736 := zK hy736
   clear hy736
   by_cases c5 : y736.length + l0.length < 17592186044416
   ·rw [if_pos c5] at H
    have LMc5 := zK c5
    clear c5
    obtain ⟨y739, hy739⟩ : ∃ y_ : List Int, y_ = (y736 ++ l0) := ⟨_, rfl⟩
    replace H : ((dist_Surprise.f k y739 a1).bind fun bt742 => ((r22_Surprise.f k l0 a1).bind fun bt744 => (if bt742.1 = bt744.1 then (w22_DistSurprises.j0 k l0 y739 (bt742.2 != bt744.2)) else (w22_DistSurprises.j0 k l0 y739 true)))) = some r := by first | (rw [hy739]; with_reducible exact H) | (have H2_ := (yV _ _).symm.trans H; rw [hy739]; with_reducible exact H2_) | (have H2_ := (yV _ _).symm.trans H; with_reducible exact H2_) | with_reducible exact H | (rw [hy739]; exact H) | exact H
    have Ny739 := zK hy739
    clear hy739
    replace H := yA.mp H
    obtain ⟨⟨t742, t743⟩, A60, H⟩ := H
    replace H : ((r22_Surprise.f k l0 a1).bind fun bt744 => (if t742 = bt744.1 then (w22_DistSurprises.j0 k l0 y739 (t743 != bt744.2)) else (w22_DistSurprises.j0 k l0 y739 true))) = some r := H
    have A6 := zK A60
    clear A60
    replace H := yA.mp H
    obtain ⟨⟨t744, t745⟩, A70, H⟩ := H
    replace H : (if t742 = t744 then (w22_DistSurprises.j0 k l0 y739 (t743 != t745)) else (w22_DistSurprises.j0 k l0 y739 true)) = some r := H
    have A7 := zK A70
    clear A70
    have HC8 := zK H
    clear H
    go_enter Try.func11, Try.ntmps11
    go_upto_region 6 with (first | ((with_reducible refine gate_callee (f := 13) rfl ?_); refine goesL_ (some 10) rfl rfl Try.func13 (by kernel_rfl) rfl #[] rfl (by (try simp only [yH, yI, yJ]); first | done | rfl | (simp only [yG, yF]; rfl)) ?_; (with_reducible refine (w22_awake.calls k  true _ A3.out).mono ?_); rintro e w9 ⟨rfl, hb⟩; refine ⟨_, rfl, ?_⟩; have n0_ := zK (yL (by repeat (first | (with_reducible first | exact HB.out | apply zJ | apply zD | apply zE) | exact HB.out)) hb); clear HB; have HB := n0_; clear n0_; (try clear hb); (try clear hb2); (try clear hk); (try clear hi)) | ((with_reducible refine gate_dst (N := 12) rfl ?_); refine Kd.R_lit (Kd.int .i64) _ 2 ?hg (N := 12) ?hd (xs := ([] : List Int)) (inner := []) (ok := fun _ => True) (okp := fun _ => True) ?hr ?hp (fun _ hk => hk) trivial (Below.refl _ _) (yN _) (by simp) ?_; (case hd => rfl); (case hg => rfl); (case hr => first | (go_simp; done) | (go_simp; rfl)); (case hp => exact (Reps.none _ _)); intro v737 w10 ho11 hb hg_ hnew_; clear hg_ hnew_; (first | rw [← Ny736.out] at ho11 | (simp only [Int.reduceToNat] at ho11; rw [← Ny736.out] at ho11)); have n0_ := zK (Kd.R_lower ho11 (yK (by repeat (first | (with_reducible first | exact HB.out | apply zJ | apply zD | apply zE) | exact HB.out)))); have n1_ := zK (yL (by repeat (first | (with_reducible first | exact HB.out | apply zJ | apply zD | apply zE) | exact HB.out)) hb); clear HB; have HO738 := n0_; have HB := n1_; clear n0_ n1_ hb ho11) | ((with_reducible refine gate_builtin (b := .append) (xs := #[.tmp 12, .tmp 13]) rfl ?_); at_builtin; refine Kd.R_append_rows (Kd.int .i64) (w0 := w) w.heap.size rfl (.tmp 12) (.tmp 13) 36 2 (.int .i64 0) 8 rfl Try.underlying36 info2 rfl (by decide) (by omega) v737 y736 l0 _ _ _ (fun _ => True) (fun _ => False) rfl rfl ?aO ?aR (fun _ _ h => h) (fun _ h => h.elim) ?aF ?aB ?aS ?aL ?_; (case aR => repeat (first | exact (yc HR0.out HB.out) | (with_reducible refine yS ?_ _) | (with_reducible refine yT ?_ _) | (with_reducible refine yU ?_))); (case aB => exact (by repeat (first | (with_reducible first | exact HB.out | apply zJ | apply zD | apply zE) | exact HB.out))); (case aF => exact (fun _ _ => trivial)); (case aO => exact (by (with_reducible repeat (first | apply zL | apply zM | apply zN)); exact HO738.out)); (case aS => exact (yK (by repeat (first | (with_reducible first | exact HB.out | apply zJ | apply zD | apply zE) | exact HB.out)))); (case aL => have := LMc5.out; omega); intro v740 w12 ho hb hg hat; rw [← Ny739.out] at ho; have n0_ := zK (hb); have n1_ := zK (ho); clear HB HO738; have HB := n0_; have HO741 := n1_; clear n0_ n1_ ho hb hg hat; obtain ⟨Ao13, co13, eo13⟩ := Kd.R_slice HO741.out; subst eo13) | ((with_reducible refine gate_callee (f := 29) rfl ?_); refine goesL_ (some 18) rfl rfl Try.func29 (by kernel_rfl) rfl #[.slice Ao13 y739.length co13, .int .i64 a1] rfl (by (try simp only [yH, yI, yJ]); first | done | rfl | (simp only [yG, yF]; rfl)) ?_; (with_reducible refine (dist_Surprise.calls k _ _ y739 a1 t742 t743 _ ?side1 ?side2 A6.out).mono ?_); (case side1 => repeat (first | exact (yM HO741.out).2.2 | (with_reducible refine yS ?_ _) | (with_reducible refine yT ?_ _) | (with_reducible refine yU ?_))); (case side2 => exact (yM HO741.out).2.1); rintro e w14 ⟨rfl, hb⟩; refine ⟨_, rfl, ?_⟩; have n0_ := zK (yb (by (with_reducible repeat (first | apply zL | apply zM | apply zN)); exact HO741.out) hb); have n1_ := zK (yL (by repeat (first | (with_reducible first | exact HB.out | apply zJ | apply zD | apply zE) | exact HB.out)) hb); clear HO741 HB; have HO741 := n0_; have HB := n1_; clear n0_ n1_; (try clear hb); (try clear hb2); (try clear hk); (try clear hi)) | ((with_reducible refine gate_callee (f := 30) rfl ?_); refine goesL_ (some 24) rfl rfl Try.func30 (by kernel_rfl) rfl #[.slice A0 l0.length c0, .int .i64 a1] rfl (by (try simp only [yH, yI, yJ]); first | done | rfl | (simp only [yG, yF]; rfl)) ?_; (with_reducible refine (r22_Surprise.calls k _ _ l0 a1 t744 t745 _ ?side1 ?side2 A7.out).mono ?_); (case side1 => repeat (first | exact (yc HR0.out HB.out) | (with_reducible refine yS ?_ _) | (with_reducible refine yT ?_ _) | (with_reducible refine yU ?_))); (case side2 => exact HC0.out); rintro e w15 ⟨rfl, hb⟩; refine ⟨_, rfl, ?_⟩; have n0_ := zK (yb (by (with_reducible repeat (first | apply zL | apply zM | apply zN)); exact HO741.out) hb); have n1_ := zK (yL (by repeat (first | (with_reducible first | exact HB.out | apply zJ | apply zD | apply zE) | exact HB.out)) hb); clear HO741 HB; have HO741 := n0_; have HB := n1_; clear n0_ n1_; (try clear hb); (try clear hb2); (try clear hk); (try clear hi)))
    (try simp only [Act.put, zA, zB, zC])
    go_cut [34] (fun v34 wc => ∃ (kq : Nat) (x34_7 : Bool), v34 = .bool x34_7 ∧ Aside0 (w22_DistSurprises.j0 kq l0 y739 x34_7 = some r) ∧ Aside0 (kq ≤ k) ∧ Aside0 (Kd.R (Kd.int .i64) 2 wc w.heap.size (fun _ => True) (.slice Ao13 y739.length co13) y739) ∧ Aside0 (Below w.heap.size w wc))
    case first =>
     have H := HC8.out
     clear HC8
     by_cases c16 : t742 = t744
     ·rw [if_pos c16] at H
      have c16b0 : (t742 == t744) = true := beq_iff_eq.mpr c16
      have c16b1 : (t742 != t744) = false := bne_eq_false_iff_eq.mpr c16
      clear c16
      (first | rw [c16b0] | (simp only [i64_w, i32_w]; rw [c16b0]) | skip)
      have H' := zK H
      clear H
      go_wp2
      go_meet
      case rel => exact ⟨_, ((t743 != t745)), (by first | rfl | (simp; done) | (simp [*]; done)), H', ⟨by first | omega | exact yN _⟩, ⟨by (with_reducible repeat (first | apply zL | apply zM | apply zN)); exact HO741.out⟩, ⟨by repeat (first | (with_reducible first | exact HB.out | apply zJ | apply zD | apply zE) | exact HB.out)⟩⟩
     ·rw [if_neg c16] at H
      have c16b0 : (t742 == t744) = false := beq_eq_false_iff_ne.mpr c16
      have c16b1 : (t742 != t744) = true := bne_iff_ne.mpr c16
      (first | rw [c16b0] | (simp only [i64_w, i32_w]; rw [c16b0]) | skip)
      have H' := zK H
      clear H
      go_wp2
      go_meet
      case rel => exact ⟨_, (true), (by first | rfl | (simp; done) | (simp [*]; done)), H', ⟨by first | omega | exact yN _⟩, ⟨by (with_reducible repeat (first | apply zL | apply zM | apply zN)); exact HO741.out⟩, ⟨by repeat (first | (with_reducible first | exact HB.out | apply zJ | apply zD | apply zE) | exact HB.out)⟩⟩
    case rest =>
     clear HC8
     try clear c1
     try clear c2
     try clear p2
     try clear c3
     try clear c4
     try clear c5
     try clear c11
     try clear c13
     try clear c16
     try clear c16b0
     try clear c16b1
     obtain ⟨kq, x34_7, rfl, HA, HJ7, HO_5, HB⟩ := hcut
     cases kq with
     | zero => exact absurd HA.out (by simp [w22_DistSurprises.j0])
     | succ kj7 =>
      have H := HA.out
      clear HA
      simp only [w22_DistSurprises.j0] at H
      by_cases c17 : x34_7 = true
      ·subst c17
       have H1 : (some false) = some r := by rw [if_pos rfl] at H; exact H
       clear H
       have H := H1
       clear H1
       obtain rfl := yY H
       go_wp2
       go_ret
       exact ⟨by first | rfl | (simp [errW_none, errW_some] <;> rfl) | (simp [*, errW_none, errW_some] <;> rfl), by repeat (first | (with_reducible first | exact HB.out | apply zJ | apply zD | apply zE) | exact HB.out)⟩
      ·replace c17 := yh.mpr c17
       subst c17
       have H1 : ((dist_Entropy.f kj7 y739).bind fun bt746 => ((r22_Entropy.f kj7 l0).bind fun bt748 => (if bt746.1 = bt748.1 then (if bt746.2 = bt748.2 then ((w22_same.f kj7 y739 l0).bind fun t750 => (some t750)) else (some false)) else (some false)))) = some r := by rw [if_neg (show ¬ (false = true) by decide)] at H; exact H
       clear H
       have H := H1
       clear H1
       replace H := yA.mp H
       obtain ⟨⟨t746, t747⟩, A180, H⟩ := H
       replace H : ((r22_Entropy.f kj7 l0).bind fun bt748 => (if t746 = bt748.1 then (if t747 = bt748.2 then ((w22_same.f kj7 y739 l0).bind fun t750 => (some t750)) else (some false)) else (some false))) = some r := H
       have A18 := zK A180
       clear A180
       replace H := yA.mp H
       obtain ⟨⟨t748, t749⟩, A190, H⟩ := H
       replace H : (if t746 = t748 then (if t747 = t749 then ((w22_same.f kj7 y739 l0).bind fun t750 => (some t750)) else (some false)) else (some false)) = some r := H
       have A19 := zK A190
       clear A190
       by_cases c20 : t746 = t748
       ·rw [if_pos c20] at H
        have c20b0 : (t746 == t748) = true := beq_iff_eq.mpr c20
        have c20b1 : (t746 != t748) = false := bne_eq_false_iff_eq.mpr c20
        clear c20
        by_cases c21 : t747 = t749
        ·rw [if_pos c21] at H
         have c21b0 : (t747 == t749) = true := beq_iff_eq.mpr c21
         have c21b1 : (t747 != t749) = false := bne_eq_false_iff_eq.mpr c21
         clear c21
         replace H := yA.mp H
         obtain ⟨t750, A220, H⟩ := H
         replace H : (some t750) = some r := H
         have A22 := zK A220
         clear A220
         obtain rfl := yY H
         go_wp2_with (first | ((with_reducible refine gate_callee (f := 31) rfl ?_); refine goesL_ (some 37) rfl rfl Try.func31 (by kernel_rfl) rfl #[.slice Ao13 y739.length co13] rfl (by (try simp only [yH, yI, yJ]); first | done | rfl | (simp only [yG, yF]; rfl)) ?_; (with_reducible refine (dist_Entropy.calls kj7 _ _ y739 t746 t747 _ ?side1 ?side2 A18.out).mono ?_); (case side1 => repeat (first | exact (yM HO_5.out).2.2 | (with_reducible refine yS ?_ _) | (with_reducible refine yT ?_ _) | (with_reducible refine yU ?_))); (case side2 => exact (yM HO_5.out).2.1); rintro e w23 ⟨rfl, hb⟩; refine ⟨_, rfl, ?_⟩; have n0_ := zK (yb (by (with_reducible repeat (first | apply zL | apply zM | apply zN)); exact HO_5.out) hb); have n1_ := zK (yL (by repeat (first | (with_reducible first | exact HB.out | apply zJ | apply zD | apply zE) | exact HB.out)) hb); clear HO_5 HB; have HO_5 := n0_; have HB := n1_; clear n0_ n1_; (try clear hb); (try clear hb2); (try clear hk); (try clear hi)) | ((with_reducible refine gate_callee (f := 32) rfl ?_); refine goesL_ (some 42) rfl rfl Try.func32 (by kernel_rfl) rfl #[.slice A0 l0.length c0] rfl (by (try simp only [yH, yI, yJ]); first | done | rfl | (simp only [yG, yF]; rfl)) ?_; (with_reducible refine (r22_Entropy.calls kj7 _ _ l0 t748 t749 _ ?side1 ?side2 A19.out).mono ?_); (case side1 => repeat (first | exact (yc HR0.out HB.out) | (with_reducible refine yS ?_ _) | (with_reducible refine yT ?_ _) | (with_reducible refine yU ?_))); (case side2 => exact HC0.out); rintro e w24 ⟨rfl, hb⟩; refine ⟨_, rfl, ?_⟩; have n0_ := zK (yb (by (with_reducible repeat (first | apply zL | apply zM | apply zN)); exact HO_5.out) hb); have n1_ := zK (yL (by repeat (first | (with_reducible first | exact HB.out | apply zJ | apply zD | apply zE) | exact HB.out)) hb); clear HO_5 HB; have HO_5 := n0_; have HB := n1_; clear n0_ n1_; (try clear hb); (try clear hb2); (try clear hk); (try clear hi)) | (go_at_call 21; (with_reducible refine (w22_same.calls kj7 _ _ y739 _ _ l0 t750 _ ?side1 ?side2 ?side3 ?side4 A22.out).mono ?_); (case side1 => repeat (first | exact (yM HO_5.out).2.2 | (with_reducible refine yS ?_ _) | (with_reducible refine yT ?_ _) | (with_reducible refine yU ?_))); (case side2 => exact (yM HO_5.out).2.1); (case side3 => repeat (first | exact (yc HR0.out HB.out) | (with_reducible refine yS ?_ _) | (with_reducible refine yT ?_ _) | (with_reducible refine yU ?_))); (case side4 => exact HC0.out); rintro e w' ⟨rfl, ⟨nd, rfl⟩⟩))
         go_ret
         exact ⟨by first | rfl | (simp [errW_none, errW_some] <;> rfl) | (simp [*, errW_none, errW_some] <;> rfl), by repeat (first | (with_reducible first | exact HB.out | apply zJ | apply zD | apply zE) | exact HB.out)⟩
        ·rw [if_neg c21] at H
         have c21b0 : (t747 == t749) = false := beq_eq_false_iff_ne.mpr c21
         have c21b1 : (t747 != t749) = true := bne_iff_ne.mpr c21
         obtain rfl := yY H
         go_wp2_with (first | ((with_reducible refine gate_callee (f := 31) rfl ?_); refine goesL_ (some 37) rfl rfl Try.func31 (by kernel_rfl) rfl #[.slice Ao13 y739.length co13] rfl (by (try simp only [yH, yI, yJ]); first | done | rfl | (simp only [yG, yF]; rfl)) ?_; (with_reducible refine (dist_Entropy.calls kj7 _ _ y739 t746 t747 _ ?side1 ?side2 A18.out).mono ?_); (case side1 => repeat (first | exact (yM HO_5.out).2.2 | (with_reducible refine yS ?_ _) | (with_reducible refine yT ?_ _) | (with_reducible refine yU ?_))); (case side2 => exact (yM HO_5.out).2.1); rintro e w25 ⟨rfl, hb⟩; refine ⟨_, rfl, ?_⟩; have n0_ := zK (yb (by (with_reducible repeat (first | apply zL | apply zM | apply zN)); exact HO_5.out) hb); have n1_ := zK (yL (by repeat (first | (with_reducible first | exact HB.out | apply zJ | apply zD | apply zE) | exact HB.out)) hb); clear HO_5 HB; have HO_5 := n0_; have HB := n1_; clear n0_ n1_; (try clear hb); (try clear hb2); (try clear hk); (try clear hi)) | ((with_reducible refine gate_callee (f := 32) rfl ?_); refine goesL_ (some 42) rfl rfl Try.func32 (by kernel_rfl) rfl #[.slice A0 l0.length c0] rfl (by (try simp only [yH, yI, yJ]); first | done | rfl | (simp only [yG, yF]; rfl)) ?_; (with_reducible refine (r22_Entropy.calls kj7 _ _ l0 t748 t749 _ ?side1 ?side2 A19.out).mono ?_); (case side1 => repeat (first | exact (yc HR0.out HB.out) | (with_reducible refine yS ?_ _) | (with_reducible refine yT ?_ _) | (with_reducible refine yU ?_))); (case side2 => exact HC0.out); rintro e w26 ⟨rfl, hb⟩; refine ⟨_, rfl, ?_⟩; have n0_ := zK (yb (by (with_reducible repeat (first | apply zL | apply zM | apply zN)); exact HO_5.out) hb); have n1_ := zK (yL (by repeat (first | (with_reducible first | exact HB.out | apply zJ | apply zD | apply zE) | exact HB.out)) hb); clear HO_5 HB; have HO_5 := n0_; have HB := n1_; clear n0_ n1_; (try clear hb); (try clear hb2); (try clear hk); (try clear hi)))
         go_ret
         exact ⟨by first | rfl | (simp [errW_none, errW_some] <;> rfl) | (simp [*, errW_none, errW_some] <;> rfl), by repeat (first | (with_reducible first | exact HB.out | apply zJ | apply zD | apply zE) | exact HB.out)⟩
       ·rw [if_neg c20] at H
        have c20b0 : (t746 == t748) = false := beq_eq_false_iff_ne.mpr c20
        have c20b1 : (t746 != t748) = true := bne_iff_ne.mpr c20
        obtain rfl := yY H
        go_wp2_with (first | ((with_reducible refine gate_callee (f := 31) rfl ?_); refine goesL_ (some 37) rfl rfl Try.func31 (by kernel_rfl) rfl #[.slice Ao13 y739.length co13] rfl (by (try simp only [yH, yI, yJ]); first | done | rfl | (simp only [yG, yF]; rfl)) ?_; (with_reducible refine (dist_Entropy.calls kj7 _ _ y739 t746 t747 _ ?side1 ?side2 A18.out).mono ?_); (case side1 => repeat (first | exact (yM HO_5.out).2.2 | (with_reducible refine yS ?_ _) | (with_reducible refine yT ?_ _) | (with_reducible refine yU ?_))); (case side2 => exact (yM HO_5.out).2.1); rintro e w27 ⟨rfl, hb⟩; refine ⟨_, rfl, ?_⟩; have n0_ := zK (yb (by (with_reducible repeat (first | apply zL | apply zM | apply zN)); exact HO_5.out) hb); have n1_ := zK (yL (by repeat (first | (with_reducible first | exact HB.out | apply zJ | apply zD | apply zE) | exact HB.out)) hb); clear HO_5 HB; have HO_5 := n0_; have HB := n1_; clear n0_ n1_; (try clear hb); (try clear hb2); (try clear hk); (try clear hi)) | ((with_reducible refine gate_callee (f := 32) rfl ?_); refine goesL_ (some 42) rfl rfl Try.func32 (by kernel_rfl) rfl #[.slice A0 l0.length c0] rfl (by (try simp only [yH, yI, yJ]); first | done | rfl | (simp only [yG, yF]; rfl)) ?_; (with_reducible refine (r22_Entropy.calls kj7 _ _ l0 t748 t749 _ ?side1 ?side2 A19.out).mono ?_); (case side1 => repeat (first | exact (yc HR0.out HB.out) | (with_reducible refine yS ?_ _) | (with_reducible refine yT ?_ _) | (with_reducible refine yU ?_))); (case side2 => exact HC0.out); rintro e w28 ⟨rfl, hb⟩; refine ⟨_, rfl, ?_⟩; have n0_ := zK (yb (by (with_reducible repeat (first | apply zL | apply zM | apply zN)); exact HO_5.out) hb); have n1_ := zK (yL (by repeat (first | (with_reducible first | exact HB.out | apply zJ | apply zD | apply zE) | exact HB.out)) hb); clear HO_5 HB; have HO_5 := n0_; have HB := n1_; clear n0_ n1_; (try clear hb); (try clear hb2); (try clear hk); (try clear hi)))
        go_ret
        exact ⟨by first | rfl | (simp [errW_none, errW_some] <;> rfl) | (simp [*, errW_none, errW_some] <;> rfl), by repeat (first | (with_reducible first | exact HB.out | apply zJ | apply zD | apply zE) | exact HB.out)⟩
   ·rw [if_neg c5] at H
    exact absurd H (by simp)
  ·replace c4 := yh.mpr c4
   subst c4
   have H1 : (some false) = some r := by rw [if_neg (show ¬ (false = true) by decide)] at H; exact H
   clear H
   have H := H1
   clear H1
   obtain rfl := yY H
   go_enter Try.func11, Try.ntmps11
   go_wp2_with (first | ((with_reducible refine gate_callee (f := 13) rfl ?_); refine goesL_ (some 10) rfl rfl Try.func13 (by kernel_rfl) rfl #[] rfl (by (try simp only [yH, yI, yJ]); first | done | rfl | (simp only [yG, yF]; rfl)) ?_; (with_reducible refine (w22_awake.calls k  false _ A3.out).mono ?_); rintro e w29 ⟨rfl, hb⟩; refine ⟨_, rfl, ?_⟩; have n0_ := zK (yL (by repeat (first | (with_reducible first | exact HB.out | apply zJ | apply zD | apply zE) | exact HB.out)) hb); clear HB; have HB := n0_; clear n0_; (try clear hb); (try clear hb2); (try clear hk); (try clear hi)))
   go_ret
   exact ⟨by first | rfl | (simp [errW_none, errW_some] <;> rfl) | (simp [*, errW_none, errW_some] <;> rfl), by repeat (first | (with_reducible first | exact HB.out | apply zJ | apply zD | apply zE) | exact HB.out)⟩

/-- THE ONE PURE STATEMENT of w22_DistSurprises: yours. -/
def w22_DistSurprises.Pure : Prop := ∀ (l0 : List Int) (a1 : Int), l0.length ≤ maxLen → l0.length * 8 ≤ 140737488351232 → (∀ x ∈ l0, (Lit.int .i64 x).wf = true) → (Lit.int .i64 a1).wf = true → ∃ k, w22_DistSurprises.f k l0 a1 = some true
theorem w22_DistSurprises.walk (P : w22_DistSurprises.Pure) (a0 : Option Addr) (len0 cap0 : Nat) (z0 : List Int) (a1 : Int) (w : World) (w0 : (a0 = none ∧ len0 = 0 ∧ cap0 = 0 ∧ z0 = []) ∨ ∃ x, a0 = some x ∧ len0 ≤ cap0 ∧ cap0 ≤ maxLen ∧ z0.length = cap0 ∧ (∀ i, i < z0.length → w.cell? (x.add i) = some (.int .i64 (z0.getD i 0))) ∧ ∀ n ∈ z0, (Lit.int .i64 n).wf = true) (y0 : len0 * 8 ≤ 140737488351232) (w1 : (Lit.int .i64 a1).wf = true) :
    Calls Try.prog 11 #[.slice a0 len0 cap0, .int .i64 a1] w fun e w' => e = .returned (.bool true) ∧ Below w.heap.size w w' := by
  obtain ⟨l0, rfl, hr0, hm0, hw0, hc0⟩ := ReadsInt.ofRowC w0
  obtain ⟨k, h⟩ := P l0 a1 hm0 y0 hw0 w1
  refine (w22_DistSurprises.calls k _ _ l0 a1 true w (Kd.C_of_reads (d := (0 : Int)) (h1 := fun _ => rfl) hr0) hc0 h).mono ?_
  rintro e w' ⟨rfl, hd⟩
  exact ⟨rfl, hd⟩

end Go.Proofs.Ythmckhfjaleomaa.T
