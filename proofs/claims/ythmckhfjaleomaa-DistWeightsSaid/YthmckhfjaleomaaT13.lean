-- Printed by this session's own driver (wip/tools/xprint.py) over the kit's printer; given functions are this session's own.
import Derived.Test.YthmckhfjaleomaaT0
import Derived.Test.YthmckhfjaleomaaT6
import Derived.Test.YthmckhfjaleomaaT10
import Derived.Test.YthmckhfjaleomaaT11
import Derived.Test.YthmckhfjaleomaaT12
namespace Go.Proofs.Ythmckhfjaleomaa.T
open Go.RowKit Go.Proofs.YthmckhfjaleomaaW.PrintWords Go.Proofs.YthmckhfjaleomaaW.PrintLast Go.Proofs.YthmckhfjaleomaaW.PrintMore
attribute [local go_sem] max2_int min2_int max_two min_two max_three min_three max_four min_four   -- for this text's walks alone
set_option linter.unusedVariables false
set_option linter.unusedSimpArgs false

/-! ### r22_Weights: function 20 -/
mutual
def r22_Weights.l0 : Nat → List Bool → List Int → List (S74) → Int → Int → Int → Int → Int → Int → Int → List (S74) → Option (List Int × Int)
  | 0, _, _, _, _, _, _, _, _, _, _, _ => none
  | k + 1, x1, x9, x35, x36, x37, Y0, Y1, Y2, Y3, Y4, Y5 => if x37 < x36 then (if 0 ≤ x37 then (if x37 < (x35.length : Int) then (if 0 ≤ ((rd_T74 x35 x37).f0) then (if ((rd_T74 x35 x37).f0) < (x9.length : Int) then (r22_Weights.l0 k x1 (x9.set (((rd_T74 x35 x37).f0) : Int).toNat (wrap64 ((rd x9 ((rd_T74 x35 x37).f0)) + ((rd_T74 x35 x37).f1)))) x35 x36 (wrap64 (x37 + 1)) Y0 Y1 Y2 Y3 Y4 Y5) else (none)) else (none)) else (none)) else (none)) else (r22_Weights.l1 k x1 x9 0 false x9 (x9.length : Int) 0 Y0 Y1 Y2 Y3 Y4 Y5)
def r22_Weights.l1 : Nat → List Bool → List Int → Int → Bool → List Int → Int → Int → Int → Int → Int → Int → Int → List (S74) → Option (List Int × Int)
  | 0, _, _, _, _, _, _, _, _, _, _, _, _, _ => none
  | k + 1, x1, x9, x12, x13, x51, x52, x53, Y0, Y1, Y2, Y3, Y4, Y5 => if x53 < x52 then (if 0 ≤ x53 then (if x53 < (x51.length : Int) then ((r22_may.f x1 x53).bind fun t333 => (if t333 = true then (if x13 = true then (if (rd x51 x53) > x12 then (r22_Weights.l1 k x1 x9 (rd x51 x53) true x51 x52 (wrap64 (x53 + 1)) Y0 Y1 Y2 Y3 Y4 Y5) else (r22_Weights.l1 k x1 x9 x12 x13 x51 x52 (wrap64 (x53 + 1)) Y0 Y1 Y2 Y3 Y4 Y5)) else (r22_Weights.l1 k x1 x9 (rd x51 x53) true x51 x52 (wrap64 (x53 + 1)) Y0 Y1 Y2 Y3 Y4 Y5)) else (r22_Weights.l1 k x1 x9 x12 x13 x51 x52 (wrap64 (x53 + 1)) Y0 Y1 Y2 Y3 Y4 Y5))) else (none)) else (none)) else (if 0 ≤ (x9.length : Int) then (if ((x9.length : Int) : Int).toNat ≤ 35184372088832 then (r22_Weights.l2 k x1 x12 (List.replicate ((x9.length : Int) : Int).toNat 0) x9 (x9.length : Int) 0 Y0 Y1 Y2 Y3 Y4 Y5) else (none)) else (none))
def r22_Weights.l2 : Nat → List Bool → Int → List Int → List Int → Int → Int → Int → Int → Int → Int → Int → List (S74) → Option (List Int × Int)
  | 0, _, _, _, _, _, _, _, _, _, _, _, _ => none
  | k + 1, x1, x12, x16, x75, x76, x77, Y0, Y1, Y2, Y3, Y4, Y5 => if x77 < x76 then (if 0 ≤ x77 then (if x77 < (x75.length : Int) then ((r22_may.f x1 x77).bind fun t338 => (if t338 = true then ((r02_Floor.f (wrap64 ((wrap64 ((rd x75 x77) - x12)) * Y0)) Y1).bind fun bt339 => ((r02_Exp2.f k (wrap64 (256 * bt339.1))).bind fun t342 => (if x77 < (x16.length : Int) then (r22_Weights.l2 k x1 x12 (x16.set (x77 : Int).toNat t342) x75 x76 (wrap64 (x77 + 1)) Y0 Y1 Y2 Y3 Y4 Y5) else (none)))) else (r22_Weights.l2 k x1 x12 x16 x75 x76 (wrap64 (x77 + 1)) Y0 Y1 Y2 Y3 Y4 Y5))) else (none)) else (none)) else (if Y2 > 0 then ((r07_Top.f k x16 Y2).bind fun t344 => ((r22_only.f k x16 t344).bind fun t347 => (r22_Weights.j3 k t347 Y0 Y1 Y2 Y3 Y4 Y5))) else (r22_Weights.j3 k x16 Y0 Y1 Y2 Y3 Y4 Y5))
def r22_Weights.j3 : Nat → List Int → Int → Int → Int → Int → Int → List (S74) → Option (List Int × Int)
  | 0, _, _, _, _, _, _, _ => none
  | k + 1, x16, Y0, Y1, Y2, Y3, Y4, Y5 => (r07_Nucleus.f k x16 Y3).bind fun bt350 => ((r22_only.f k x16 bt350.1).bind fun t354 => ((r22_Total.f Y0 Y1 Y2 Y3 Y4 Y5).bind fun t357 => ((r07_Share.f k t354 t357).bind fun bt358 => (some (bt358.1, bt358.2)))))
end
def r22_Weights.f (k : Nat) (l0 : List Int) (l1 : List Bool) (a2_0 : Int) (a2_1 : Int) (a2_2 : Int) (a2_3 : Int) (a2_4 : Int) (l2_5 : List (S74)) : Option (List Int × Int) := (r22_wrong.f k l0 l1 a2_0 a2_1 a2_2 a2_3 a2_4 l2_5).bind fun t321 => (if t321 = 0 then ((some (([] : List Int) : List Int)).bind fun y322 => (if y322.length + l0.length < 17592186044416 then (r22_Weights.l0 k l1 (y322 ++ l0) l2_5 (l2_5.length : Int) 0 a2_0 a2_1 a2_2 a2_3 a2_4 l2_5) else (none))) else (some (([] : List Int), t321)))
theorem r22_Weights.mono_l : ∀ k, (∀ y0 y1 y2 y3 y4 y5 y6 y7 y8 y9 y10, LeO (r22_Weights.l0 k y0 y1 y2 y3 y4 y5 y6 y7 y8 y9 y10) (r22_Weights.l0 (k + 1) y0 y1 y2 y3 y4 y5 y6 y7 y8 y9 y10)) ∧ (∀ y0 y1 y2 y3 y4 y5 y6 y7 y8 y9 y10 y11 y12, LeO (r22_Weights.l1 k y0 y1 y2 y3 y4 y5 y6 y7 y8 y9 y10 y11 y12) (r22_Weights.l1 (k + 1) y0 y1 y2 y3 y4 y5 y6 y7 y8 y9 y10 y11 y12)) ∧ (∀ y0 y1 y2 y3 y4 y5 y6 y7 y8 y9 y10 y11, LeO (r22_Weights.l2 k y0 y1 y2 y3 y4 y5 y6 y7 y8 y9 y10 y11) (r22_Weights.l2 (k + 1) y0 y1 y2 y3 y4 y5 y6 y7 y8 y9 y10 y11)) ∧ (∀ y0 y1 y2 y3 y4 y5 y6, LeO (r22_Weights.j3 k y0 y1 y2 y3 y4 y5 y6) (r22_Weights.j3 (k + 1) y0 y1 y2 y3 y4 y5 y6))
  | 0 => ⟨fun _ _ _ _ _ _ _ _ _ _ _ r h => by simp [r22_Weights.l0] at h, fun _ _ _ _ _ _ _ _ _ _ _ _ _ r h => by simp [r22_Weights.l1] at h, fun _ _ _ _ _ _ _ _ _ _ _ _ r h => by simp [r22_Weights.l2] at h, fun _ _ _ _ _ _ _ r h => by simp [r22_Weights.j3] at h⟩
  | k + 1 => by
    obtain ⟨ih0, ih1, ih2, ih3⟩ := r22_Weights.mono_l k
    refine ⟨?_, ?_, ?_, ?_⟩ <;> (intros; first | unfold r22_Weights.l0 | unfold r22_Weights.l1 | unfold r22_Weights.l2 | unfold r22_Weights.j3)
    all_goals repeat' first
      | (with_reducible exact ih0 _ _ _ _ _ _ _ _ _ _ _)
      | (with_reducible exact ih1 _ _ _ _ _ _ _ _ _ _ _ _ _)
      | (with_reducible exact ih2 _ _ _ _ _ _ _ _ _ _ _ _)
      | (with_reducible exact ih3 _ _ _ _ _ _ _)
      | (with_reducible exact r02_Exp2.mono _ _)
      | (with_reducible exact r07_Nucleus.mono _ _ _)
      | (with_reducible exact r07_Share.mono _ _ _)
      | (with_reducible exact r07_Top.mono _ _ _)
      | (with_reducible exact r22_only.mono _ _ _)
      | (with_reducible exact r22_wrong.mono _ _ _ _ _ _ _ _ _)
      | (with_reducible exact yR _)
      | (with_reducible exact yO _)
      | (with_reducible refine yQ ?_ ?_)
      | (with_reducible refine yP ?_ (fun _ => ?_))
      | exact ih0 _ _ _ _ _ _ _ _ _ _ _
      | exact ih1 _ _ _ _ _ _ _ _ _ _ _ _ _
      | exact ih2 _ _ _ _ _ _ _ _ _ _ _ _
      | exact ih3 _ _ _ _ _ _ _
      | exact r02_Exp2.mono _ _
      | exact r07_Nucleus.mono _ _ _
      | exact r07_Share.mono _ _ _
      | exact r07_Top.mono _ _ _
      | exact r22_only.mono _ _ _
      | exact r22_wrong.mono _ _ _ _ _ _ _ _ _
      | exact yO _
      | refine yQ ?_ ?_
      | refine yP ?_ (fun _ => ?_)
theorem r22_Weights.mono : ∀ a0 a1 a2 a3 a4 a5 a6 a7 k, LeO (r22_Weights.f k a0 a1 a2 a3 a4 a5 a6 a7) (r22_Weights.f (k + 1) a0 a1 a2 a3 a4 a5 a6 a7) := by
  intro a0 a1 a2 a3 a4 a5 a6 a7 k
  obtain ⟨ih0, ih1, ih2, ih3⟩ := r22_Weights.mono_l k
  unfold r22_Weights.f
  repeat' first
      | (with_reducible exact ih0 _ _ _ _ _ _ _ _ _ _ _)
      | (with_reducible exact ih1 _ _ _ _ _ _ _ _ _ _ _ _ _)
      | (with_reducible exact ih2 _ _ _ _ _ _ _ _ _ _ _ _)
      | (with_reducible exact ih3 _ _ _ _ _ _ _)
      | (with_reducible exact r02_Exp2.mono _ _)
      | (with_reducible exact r07_Nucleus.mono _ _ _)
      | (with_reducible exact r07_Share.mono _ _ _)
      | (with_reducible exact r07_Top.mono _ _ _)
      | (with_reducible exact r22_only.mono _ _ _)
      | (with_reducible exact r22_wrong.mono _ _ _ _ _ _ _ _ _)
      | (with_reducible exact yR _)
      | (with_reducible exact yO _)
      | (with_reducible refine yQ ?_ ?_)
      | (with_reducible refine yP ?_ (fun _ => ?_))
      | exact ih0 _ _ _ _ _ _ _ _ _ _ _
      | exact ih1 _ _ _ _ _ _ _ _ _ _ _ _ _
      | exact ih2 _ _ _ _ _ _ _ _ _ _ _ _
      | exact ih3 _ _ _ _ _ _ _
      | exact r02_Exp2.mono _ _
      | exact r07_Nucleus.mono _ _ _
      | exact r07_Share.mono _ _ _
      | exact r07_Top.mono _ _ _
      | exact r22_only.mono _ _ _
      | exact r22_wrong.mono _ _ _ _ _ _ _ _ _
      | exact yO _
      | refine yQ ?_ ?_
      | refine yP ?_ (fun _ => ?_)
def r22_Weights.T8 : Bool × List (List Nat × List Nat) := (true, [([], []), ([], []), ([1], [1]), ([0, 2], [0, 2]), ([3], [3]), ([], []), ([5], [5]), ([4, 6], [4, 6]), ([0, 2, 0, 1, 2, 3, 4, 5, 6, 7], [0, 2]), ([8, 7, 0, 1, 2, 3, 4, 5, 6, 7], [7, 8])])
def r22_Weights.B8 : List Nat := [0, 0, 2, 7, 15, 0, 32, 127, 255, 511]
theorem r22_Weights.tab8 : rtab .any (opsOf Try.f20 8) = r22_Weights.T8 := by kernel_rfl
theorem r22_Weights.bits8 : waitsOk r22_Weights.T8.2 r22_Weights.B8 = true := by kernel_rfl
def r22_Weights.T28 : Bool × List (List Nat × List Nat) := (true, [([], []), ([], []), ([0, 1], [0, 1]), ([], []), ([3, 2], [3]), ([2, 4, 4], [2, 4]), ([5], [5]), ([5], [5]), ([6, 5, 0, 1, 2, 3, 4, 5, 6, 7], [6]), ([7, 8, 0, 1, 2, 3, 4, 5, 6, 7, 8], [7])])
def r22_Weights.B28 : List Nat := [0, 0, 3, 0, 15, 31, 63, 63, 255, 511]
theorem r22_Weights.tab28 : rtab .any (opsOf Try.f20 28) = r22_Weights.T28 := by kernel_rfl
theorem r22_Weights.bits28 : waitsOk r22_Weights.T28.2 r22_Weights.B28 = true := by kernel_rfl
set_option maxHeartbeats 8000000 in
set_option maxRecDepth 100000 in
theorem r22_Weights.calls (k : Nat) (A0 : Option Addr) (c0 : Nat) (l0 : List Int) (A1 : Option Addr) (c1 : Nat) (l1 : List Bool) (a2_0 : Int) (a2_1 : Int) (a2_2 : Int) (a2_3 : Int) (a2_4 : Int) (A2_5 : Option Addr) (c2_5 : Nat) (l2_5 : List (S74)) (r1 : List Int) (r2 : Int) (w : World) (hr0 : Kd.C (Kd.int .i64) w A0 l0.length l0) (hc0 : l0.length ≤ c0) (hr1 : Kd.C Kd.bool w A1 l1.length l1) (hc1 : l1.length ≤ c1) (hr2_5 : Kd.C k74 w A2_5 l2_5.length l2_5) (hc2_5 : l2_5.length ≤ c2_5) (h : r22_Weights.f k l0 l1 a2_0 a2_1 a2_2 a2_3 a2_4 l2_5 = some (r1, r2)) :
    Calls Try.prog 20 #[.slice A0 l0.length c0, .slice A1 l1.length c1, .agg #[.int .i64 a2_0, .int .i64 a2_1, .int .i64 a2_2, .int .i64 a2_3, .int .i64 a2_4, .slice A2_5 l2_5.length c2_5]] w fun e w' => ∃ v0_ : Value, e = .returned (.tuple #[v0_, .int .i64 r2]) ∧ Kd.R (Kd.int .i64) 2 w' w.heap.size (fun _ => True) v0_ r1 ∧ Below w.heap.size w w' := by
  have hu31 := Try.underlying31
  have hu74 := Try.underlying74
  have HR0 := zK hr0
  have HC0 := zK hc0
  clear hr0 hc0
  have HR1 := zK hr1
  have HC1 := zK hc1
  clear hr1 hc1
  have HR2_5 := zK hr2_5
  have HC2_5 := zK hc2_5
  clear hr2_5 hc2_5
  have HB := zK (Below.refl w.heap.size w)
  have H : ((r22_wrong.f k l0 l1 a2_0 a2_1 a2_2 a2_3 a2_4 l2_5).bind fun t321 => (if t321 = 0 then ((some (([] : List Int) : List Int)).bind fun y322 => (if y322.length + l0.length < 17592186044416 then (r22_Weights.l0 k l1 (y322 ++ l0) l2_5 (l2_5.length : Int) 0 a2_0 a2_1 a2_2 a2_3 a2_4 l2_5) else (none))) else (some (([] : List Int), t321)))) = some (r1, r2) := h
  clear h
  replace H := yA.mp H
  obtain ⟨t321, A40, H⟩ := H
  replace H : (if t321 = 0 then ((some (([] : List Int) : List Int)).bind fun y322 => (if y322.length + l0.length < 17592186044416 then (r22_Weights.l0 k l1 (y322 ++ l0) l2_5 (l2_5.length : Int) 0 a2_0 a2_1 a2_2 a2_3 a2_4 l2_5) else (none))) else (some (([] : List Int), t321))) = some (r1, r2) := H
  have A4 := zK A40
  clear A40
  by_cases c5 : t321 = 0
  ·rw [if_pos c5] at H
   have c5b0 : (t321 == 0) = true := beq_iff_eq.mpr c5
   have c5b1 : (t321 != 0) = false := bne_eq_false_iff_eq.mpr c5
   clear c5
   obtain ⟨y322, hy322⟩ : ∃ y_ : List Int, y_ = (([] : List Int)) := ⟨_, rfl⟩
   replace H : (if y322.length + l0.length < 17592186044416 then (r22_Weights.l0 k l1 (y322 ++ l0) l2_5 (l2_5.length : Int) 0 a2_0 a2_1 a2_2 a2_3 a2_4 l2_5) else (none)) = some (r1, r2) := by first | (rw [hy322]; with_reducible exact H) | (have H2_ := (yV _ _).symm.trans H; rw [hy322]; with_reducible exact H2_) | (have H2_ := (yV _ _).symm.trans H; with_reducible exact H2_) | with_reducible exact H | (rw [hy322]; exact H) | exact H
   have Ny322 := zK hy322
   clear hy322
   by_cases c6 : y322.length + l0.length < 17592186044416
   ·rw [if_pos c6] at H
    have LMc6 := zK c6
    clear c6
    obtain ⟨y325, hy325⟩ : ∃ y_ : List Int, y_ = (y322 ++ l0) := ⟨_, rfl⟩
    replace H : (r22_Weights.l0 k l1 y325 l2_5 (l2_5.length : Int) 0 a2_0 a2_1 a2_2 a2_3 a2_4 l2_5) = some (r1, r2) := by first | (rw [hy325]; with_reducible exact H) | (have H2_ := (yV _ _).symm.trans H; rw [hy325]; with_reducible exact H2_) | (have H2_ := (yV _ _).symm.trans H; with_reducible exact H2_) | with_reducible exact H | (rw [hy325]; exact H) | exact H
    have Ny325 := zK hy325
    clear hy325
    have H' := zK H
    clear H
    go_enter Try.func20, Try.ntmps20
    go_wp2_with (first | ((with_reducible refine gate_dst (N := 5) rfl ?_); refine box_event ?hg (N := 5) ?hd (cs := #[.int .i64 a2_0, .int .i64 a2_1, .int .i64 a2_2, .int .i64 a2_3, .int .i64 a2_4, .slice A2_5 l2_5.length c2_5]) (t := 31) ?hr ?_; (case hd => rfl); (case hg => rfl); (case hr => first | (go_simp; done) | (go_simp; rfl)); intro Z9 hg w7 hbox hb; have n0_ := zK (yL (by repeat (first | (with_reducible first | exact HB.out | apply zJ | apply zD | apply zE) | exact HB.out)) hb); have n1_ := zK (hbox); have n2_ := zK ((by rw [hg]; exact (yK (by repeat (first | (with_reducible first | exact HB.out | apply zJ | apply zD | apply zE) | exact HB.out))) : w.heap.size ≤ Z9)); have n3_ := zK ((by rw [hg]; exact (yK (by repeat (first | (with_reducible first | exact HB.out | apply zJ | apply zD | apply zE) | exact HB.out))) : w.heap.size ≤ Z9)); clear HB; have HB := n0_; have Z0 := n1_; have Z4 := n2_; have Z2 := n3_; clear n0_ n1_ n2_ n3_ hb hbox hg; have hcz8_0 : w7.cell? ⟨Z9, 0, none⟩ = some (.int .i64 a2_0) := (zO Z0.out 0).trans rfl; have hcz8_1 : w7.cell? ⟨Z9, 1, none⟩ = some (.int .i64 a2_1) := (zO Z0.out 1).trans rfl; have hcz8_2 : w7.cell? ⟨Z9, 2, none⟩ = some (.int .i64 a2_2) := (zO Z0.out 2).trans rfl; have hcz8_3 : w7.cell? ⟨Z9, 3, none⟩ = some (.int .i64 a2_3) := (zO Z0.out 3).trans rfl; have hcz8_4 : w7.cell? ⟨Z9, 4, none⟩ = some (.int .i64 a2_4) := (zO Z0.out 4).trans rfl; have hcz8_5 : w7.cell? ⟨Z9, 5, none⟩ = some (.slice A2_5 l2_5.length c2_5) := (zO Z0.out 5).trans rfl; have hfz8_0 := yE Z0.out 0; have hfz8_1 := yE Z0.out 1; have hfz8_2 := yE Z0.out 2; have hfz8_3 := yE Z0.out 3; have hfz8_4 := yE Z0.out 4; have hfz8_5 := yE Z0.out 5) | ((with_reducible refine gate_callee (f := 46) rfl ?_); refine goesL_ (some 27) rfl rfl Try.func46 (by kernel_rfl) rfl #[.slice A0 l0.length c0, .slice A1 l1.length c1, .agg #[.int .i64 a2_0, .int .i64 a2_1, .int .i64 a2_2, .int .i64 a2_3, .int .i64 a2_4, .slice A2_5 l2_5.length c2_5]] rfl (by (try simp only [yH, yI, yJ]); first | done | rfl | (simp only [yG, yF]; rfl)) ?_; (with_reducible refine (r22_wrong.calls k _ _ l0 _ _ l1 a2_0 a2_1 a2_2 a2_3 a2_4 _ _ l2_5 t321 _ ?side1 ?side2 ?side3 ?side4 ?side5 ?side6 A4.out).mono ?_); (case side1 => repeat (first | exact (yc HR0.out HB.out) | (with_reducible refine yS ?_ _) | (with_reducible refine yT ?_ _) | (with_reducible refine yU ?_))); (case side2 => exact HC0.out); (case side3 => repeat (first | exact (yc HR1.out HB.out) | (with_reducible refine yS ?_ _) | (with_reducible refine yT ?_ _) | (with_reducible refine yU ?_))); (case side4 => exact HC1.out); (case side5 => repeat (first | exact (yc HR2_5.out HB.out) | (with_reducible refine yS ?_ _) | (with_reducible refine yT ?_ _) | (with_reducible refine yU ?_))); (case side6 => exact HC2_5.out); rintro e w9 ⟨rfl, hb⟩; refine ⟨_, rfl, ?_⟩; have n0_ := zK (zP (g := Z9) (o := .cells #[.int .i64 a2_0, .int .i64 a2_1, .int .i64 a2_2, .int .i64 a2_3, .int .i64 a2_4, .slice A2_5 l2_5.length c2_5] 31 (0, 0)) (by (with_reducible repeat (first | refine zF ?_ _ | refine zH ?_ | refine zG ?_ _)); exact Z0.out) hb); have n1_ := zK (yL (by repeat (first | (with_reducible first | exact HB.out | apply zJ | apply zD | apply zE | refine zI ?_ Z2.out) | exact HB.out)) hb); clear Z0 HB; have Z0 := n0_; have HB := n1_; clear n0_ n1_; (try clear hb); (try clear hb2); (try clear hk); (try clear hi)) | ((with_reducible refine gate_dst (N := 31) rfl ?_); refine Kd.R_lit (Kd.int .i64) _ 2 ?hg (N := 31) ?hd (xs := ([] : List Int)) (inner := []) (ok := fun _ => True) (okp := fun _ => True) ?hr ?hp (fun _ hk => hk) trivial (Below.refl _ _) (yN _) (by simp) ?_; (case hd => rfl); (case hg => rfl); (case hr => first | (go_simp; done) | (go_simp; rfl)); (case hp => exact (Reps.none _ _)); intro v323 w10 ho11 hb hg_ hnew_; clear hg_ hnew_; (first | rw [← Ny322.out] at ho11 | (simp only [Int.reduceToNat] at ho11; rw [← Ny322.out] at ho11)); have n0_ := zK (Kd.R_lower ho11 (yK (by repeat (first | (with_reducible first | exact HB.out | apply zJ | apply zD | apply zE | refine zI ?_ Z2.out) | exact HB.out)))); have n1_ := zK (zP (g := Z9) (o := .cells #[.int .i64 a2_0, .int .i64 a2_1, .int .i64 a2_2, .int .i64 a2_3, .int .i64 a2_4, .slice A2_5 l2_5.length c2_5] 31 (0, 0)) (by (with_reducible repeat (first | refine zF ?_ _ | refine zH ?_ | refine zG ?_ _)); exact Z0.out) hb); have n2_ := zK (yL (by repeat (first | (with_reducible first | exact HB.out | apply zJ | apply zD | apply zE | refine zI ?_ Z2.out) | exact HB.out)) hb); clear Z0 HB; have HO324 := n0_; have Z0 := n1_; have HB := n2_; clear n0_ n1_ n2_ hb ho11) | ((with_reducible refine gate_builtin (b := .append) (xs := #[.tmp 31, .tmp 32]) rfl ?_); at_builtin; refine Kd.R_append_rows (Kd.int .i64) (w0 := w) w.heap.size rfl (.tmp 31) (.tmp 32) 36 2 (.int .i64 0) 8 rfl Try.underlying36 info2 rfl (by decide) (by omega) v323 y322 l0 _ _ _ (fun _ => True) (fun _ => False) rfl rfl ?aO ?aR (fun _ _ h => h) (fun _ h => h.elim) ?aF ?aB ?aS ?aL ?_; (case aR => repeat (first | exact (yc HR0.out HB.out) | (with_reducible refine yS ?_ _) | (with_reducible refine yT ?_ _) | (with_reducible refine yU ?_))); (case aB => exact (by repeat (first | (with_reducible first | exact HB.out | apply zJ | apply zD | apply zE | refine zI ?_ Z2.out) | exact HB.out))); (case aF => exact (fun _ _ => trivial)); (case aO => exact (by (with_reducible repeat (first | apply zL | apply zM | apply zN)); exact HO324.out)); (case aS => exact (yK (by repeat (first | (with_reducible first | exact HB.out | apply zJ | apply zD | apply zE | refine zI ?_ Z2.out) | exact HB.out)))); (case aL => have := LMc6.out; omega); intro v326 w12 ho hb hg hat; rw [← Ny325.out] at ho; have n0_ := zK (blk_grown (g := Z9) (o := .cells #[.int .i64 a2_0, .int .i64 a2_1, .int .i64 a2_2, .int .i64 a2_3, .int .i64 a2_4, .slice A2_5 l2_5.length c2_5] 31 (0, 0)) (by (with_reducible repeat (first | refine zF ?_ _ | refine zH ?_ | refine zG ?_ _)); exact Z0.out) hg (Kd.R_ne HO324.out Z0.out (by decide))); have n1_ := zK (hb); have n2_ := zK (ho); clear Z0 HB HO324; have Z0 := n0_; have HB := n1_; have HO327 := n2_; clear n0_ n1_ n2_ ho hb hg hat; have hcz13_0 : w12.cell? ⟨Z9, 0, none⟩ = some (.int .i64 a2_0) := (zO Z0.out 0).trans rfl; have hcz13_1 : w12.cell? ⟨Z9, 1, none⟩ = some (.int .i64 a2_1) := (zO Z0.out 1).trans rfl; have hcz13_2 : w12.cell? ⟨Z9, 2, none⟩ = some (.int .i64 a2_2) := (zO Z0.out 2).trans rfl; have hcz13_3 : w12.cell? ⟨Z9, 3, none⟩ = some (.int .i64 a2_3) := (zO Z0.out 3).trans rfl; have hcz13_4 : w12.cell? ⟨Z9, 4, none⟩ = some (.int .i64 a2_4) := (zO Z0.out 4).trans rfl; have hcz13_5 : w12.cell? ⟨Z9, 5, none⟩ = some (.slice A2_5 l2_5.length c2_5) := (zO Z0.out 5).trans rfl; have hfz13_0 := yE Z0.out 0; have hfz13_1 := yE Z0.out 1; have hfz13_2 := yE Z0.out 2; have hfz13_3 := yE Z0.out 3; have hfz13_4 := yE Z0.out 4; have hfz13_5 := yE Z0.out 5))
    go_loopg [37] k (fun kq v37 w' => ∃ (x9_1 : List Int) (x37_1 : Int), v37 = .int .i64 x37_1 ∧ Aside0 (r22_Weights.l0 kq l1 x9_1 l2_5 (l2_5.length : Int) x37_1 a2_0 a2_1 a2_2 a2_3 a2_4 l2_5 = some (r1, r2)) ∧ Aside0 (kq ≤ k) ∧ Aside0 (Kd.R (Kd.int .i64) 2 w' w.heap.size (fun _ => True) v326 x9_1) ∧ Aside0 (w'.heap[Z9]? = some (.cells #[.int .i64 a2_0, .int .i64 a2_1, .int .i64 a2_2, .int .i64 a2_3, .int .i64 a2_4, (.slice A2_5 l2_5.length c2_5)] 31 (0, 0))) ∧ Aside0 (Below w.heap.size w w'))
    case atStart => exact ⟨(y325), (0), (by first | rfl | (simp; done) | (simp [*]; done)), H', ⟨yN _⟩, ⟨by (with_reducible repeat (first | apply zL | apply zM | apply zN)); exact HO327.out⟩, ⟨by (with_reducible repeat (first | refine zF ?_ _ | refine zH ?_ | refine zG ?_ _)); exact Z0.out⟩, ⟨by repeat (first | (with_reducible first | exact HB.out | apply zJ | apply zD | apply zE | refine zI ?_ Z2.out) | exact HB.out)⟩⟩
    case round =>
     clear H'
     try clear c1
     try clear c2
     try clear p2
     try clear c4
     try clear c5
     try clear c5b0
     try clear c5b1
     try clear c6
     try clear hcz13_0
     try clear hcz13_1
     try clear hcz13_2
     try clear hcz13_3
     try clear hcz13_4
     try clear hcz13_5
     try clear hcz8_0
     try clear hcz8_1
     try clear hcz8_2
     try clear hcz8_3
     try clear hcz8_4
     try clear hcz8_5
     try clear hfz13_0
     try clear hfz13_1
     try clear hfz13_2
     try clear hfz13_3
     try clear hfz13_4
     try clear hfz13_5
     try clear hfz8_0
     try clear hfz8_1
     try clear hfz8_2
     try clear hfz8_3
     try clear hfz8_4
     try clear hfz8_5
     obtain ⟨x9_1, x37_1, rfl, HA, HK1, HO_9, Z0, HB⟩ := hrel
     cases gk with
     | zero => exact absurd HA.out (by simp [r22_Weights.l0])
     | succ k1 =>
      have H := HA.out
      clear HA
      simp only [r22_Weights.l0] at H
      by_cases c14 : x37_1 < (l2_5.length : Int)
      ·rw [if_pos c14] at H
       have c14b0 : decide (x37_1 < (l2_5.length : Int)) = true := yC c14
       clear c14
       by_cases c15 : 0 ≤ x37_1
       ·rw [if_pos c15] at H
        have c15b0 : decide (0 ≤ x37_1) = true := yC c15
        clear c15
        by_cases c16 : x37_1 < (l2_5.length : Int)
        ·rw [if_pos c16] at H
         have c16b0 : decide (x37_1 < (l2_5.length : Int)) = true := yC c16
         clear c16
         by_cases c17 : 0 ≤ ((rd_T74 l2_5 x37_1).f0)
         ·rw [if_pos c17] at H
          have c17b0 : decide (0 ≤ ((rd_T74 l2_5 x37_1).f0)) = true := yC c17
          clear c17
          by_cases c18 : ((rd_T74 l2_5 x37_1).f0) < (x9_1.length : Int)
          ·rw [if_pos c18] at H
           have c18b0 : decide (((rd_T74 l2_5 x37_1).f0) < (x9_1.length : Int)) = true := yC c18
           clear c18
           obtain ⟨y331, hy331⟩ : ∃ y_ : List Int, y_ = (x9_1.set (((rd_T74 l2_5 x37_1).f0) : Int).toNat (wrap64 ((rd x9_1 ((rd_T74 l2_5 x37_1).f0)) + ((rd_T74 l2_5 x37_1).f1)))) := ⟨_, rfl⟩
           replace H : (r22_Weights.l0 k1 l1 y331 l2_5 (l2_5.length : Int) (wrap64 (x37_1 + 1)) a2_0 a2_1 a2_2 a2_3 a2_4 l2_5) = some (r1, r2) := by first | (rw [hy331]; with_reducible exact H) | (have H2_ := (yV _ _).symm.trans H; rw [hy331]; with_reducible exact H2_) | (have H2_ := (yV _ _).symm.trans H; with_reducible exact H2_) | with_reducible exact H | (rw [hy331]; exact H) | exact H
           have Ny331 := zK hy331
           clear hy331
           have H' := zK H
           clear H
           have p328 : 0 ≤ (x37_1 : Int) := yB (by first | (with_reducible assumption) | assumption)
           have q328 : x37_1 < (l2_5.length : Int) := yB (by first | (with_reducible assumption) | assumption)
           obtain ⟨ad328, e328, hx328_0, hx328_1⟩ := at_T74 HR2_5.out x37_1 p328 q328
           cases e328
           replace hx328_0 := (HB.out.cell (World.block_lt_of_cell? w _ hx328_0)).trans hx328_0
           replace hx328_1 := (HB.out.cell (World.block_lt_of_cell? w _ hx328_1)).trans hx328_1
           replace p328 := yg p328
           replace q328 := yg q328
           try go_wp2_with (first | ((with_reducible refine gate_dst (N := 11) rfl ?_); refine box_event ?hg (N := 11) ?hd (cs := #[.int .i64 0, .int .i64 0]) (t := 74) ?hr ?_; (case hd => rfl); (case hg => rfl); (case hr => first | (go_simp; done) | (go_simp; rfl)); intro Z10 hg w20 hbox hb; have n0_ := zK (yb (by (with_reducible repeat (first | apply zL | apply zM | apply zN)); exact HO_9.out) hb); have n1_ := zK (zP (g := Z9) (o := .cells #[.int .i64 a2_0, .int .i64 a2_1, .int .i64 a2_2, .int .i64 a2_3, .int .i64 a2_4, .slice (some ad328) l2_5.length c2_5] 31 (0, 0)) (by (with_reducible repeat (first | refine zF ?_ _ | refine zH ?_ | refine zG ?_ _)); exact Z0.out) hb); have n2_ := zK (yL (by repeat (first | (with_reducible first | exact HB.out | apply zJ | apply zD | apply zE | refine zI ?_ Z2.out) | exact HB.out)) hb); have n3_ := zK (hbox); have n4_ := zK ((by rw [hg]; exact (yK (by repeat (first | (with_reducible first | exact HB.out | apply zJ | apply zD | apply zE | refine zI ?_ Z2.out) | exact HB.out))) : w.heap.size ≤ Z10)); have n5_ := zK ((by rw [hg]; exact (yK (by repeat (first | (with_reducible first | exact HB.out | apply zJ | apply zD | apply zE | refine zI ?_ Z2.out) | exact HB.out))) : w.heap.size ≤ Z10)); have n6_ := zK ((by rw [hg]; exact ym (yo (g := Z9) (o := .cells #[.int .i64 a2_0, .int .i64 a2_1, .int .i64 a2_2, .int .i64 a2_3, .int .i64 a2_4, .slice (some ad328) l2_5.length c2_5] 31 (0, 0)) (by (with_reducible repeat (first | refine zF ?_ _ | refine zH ?_ | refine zG ?_ _)); exact Z0.out)) : Z9 ≠ Z10)); have n7_ := zK ((by rw [hg]; exact yn (yo (g := Z9) (o := .cells #[.int .i64 a2_0, .int .i64 a2_1, .int .i64 a2_2, .int .i64 a2_3, .int .i64 a2_4, .slice (some ad328) l2_5.length c2_5] 31 (0, 0)) (by (with_reducible repeat (first | refine zF ?_ _ | refine zH ?_ | refine zG ?_ _)); exact Z0.out)) : Z10 ≠ Z9)); clear HO_9 Z0 HB; have HO_9 := n0_; have Z0 := n1_; have HB := n2_; have Z1 := n3_; have Z5 := n4_; have Z3 := n5_; have Z6 := n6_; have Z7 := n7_; clear n0_ n1_ n2_ n3_ n4_ n5_ n6_ n7_ hb hbox hg; have hnb21 := Z7.out; have hnc21 := Z6.out; have hcz22_0 : w20.cell? ⟨Z10, 0, none⟩ = some (.int .i64 0) := (zO Z1.out 0).trans rfl; have hcz22_1 : w20.cell? ⟨Z10, 1, none⟩ = some (.int .i64 0) := (zO Z1.out 1).trans rfl; have hfz22_0 := yE Z1.out 0; have hfz22_1 := yE Z1.out 1))
           have n0_ : Aside0 (Kd.R (Kd.int .i64) 2 ((w20.setCell ⟨Z10, 0, none⟩ (.int .i64 ((rd_T74 l2_5 x37_1).f0))).setCell ⟨Z10, 1, none⟩ (.int .i64 ((rd_T74 l2_5 x37_1).f1))) w.heap.size (fun _ => True) v326 x9_1) := ⟨by (with_reducible repeat (first | apply zL | apply zM | apply zN)); exact yd (Kd.R_far (p := ⟨Z10, 1, none⟩) (Kd.R_far (p := ⟨Z10, 0, none⟩) (Kd.R_types HO_9.out Z1.out (by decide)) (fun _ hk => hk.2) (.int .i64 ((rd_T74 l2_5 x37_1).f0))) (fun _ hk => hk.2) (.int .i64 ((rd_T74 l2_5 x37_1).f1))) (fun _ hk => trivial)⟩
           have n1_ : Aside0 (((w20.setCell ⟨Z10, 0, none⟩ (.int .i64 ((rd_T74 l2_5 x37_1).f0))).setCell ⟨Z10, 1, none⟩ (.int .i64 ((rd_T74 l2_5 x37_1).f1))).heap[Z9]? = some (.cells #[.int .i64 a2_0, .int .i64 a2_1, .int .i64 a2_2, .int .i64 a2_3, .int .i64 a2_4, .slice (some ad328) l2_5.length c2_5] 31 (0, 0))) := ⟨by (with_reducible repeat (first | refine zF ?_ _ | refine zH ?_ | refine zG ?_ _)); refine blk_far ?_ Z6.out _; (with_reducible repeat (first | refine zF ?_ _ | refine zH ?_ | refine zG ?_ _)); refine blk_far ?_ Z6.out _; (with_reducible repeat (first | refine zF ?_ _ | refine zH ?_ | refine zG ?_ _)); exact Z0.out⟩
           have n2_ : Aside0 (((w20.setCell ⟨Z10, 0, none⟩ (.int .i64 ((rd_T74 l2_5 x37_1).f0))).setCell ⟨Z10, 1, none⟩ (.int .i64 ((rd_T74 l2_5 x37_1).f1))).heap[Z10]? = some (.cells #[.int .i64 ((rd_T74 l2_5 x37_1).f0), .int .i64 ((rd_T74 l2_5 x37_1).f1)] 74 (0, 0))) := ⟨by (with_reducible repeat (first | refine zF ?_ _ | refine zH ?_ | refine zG ?_ _)); refine blk_put (cs := #[.int .i64 ((rd_T74 l2_5 x37_1).f0), .int .i64 0]) ?_ 1 _ rfl; (with_reducible repeat (first | refine zF ?_ _ | refine zH ?_ | refine zG ?_ _)); refine blk_put (cs := #[.int .i64 0, .int .i64 0]) ?_ 0 _ rfl; (with_reducible repeat (first | refine zF ?_ _ | refine zH ?_ | refine zG ?_ _)); exact Z1.out⟩
           have n3_ : Aside0 (Below w.heap.size w ((w20.setCell ⟨Z10, 0, none⟩ (.int .i64 ((rd_T74 l2_5 x37_1).f0))).setCell ⟨Z10, 1, none⟩ (.int .i64 ((rd_T74 l2_5 x37_1).f1)))) := ⟨by repeat (first | (with_reducible first | exact HB.out | apply zJ | apply zD | apply zE | refine zI ?_ Z2.out | refine zI ?_ Z3.out) | exact HB.out)⟩
           (try clear HO_9)
           (try clear Z0)
           (try clear Z1)
           (try clear HB)
           generalize ((w20.setCell ⟨Z10, 0, none⟩ (.int .i64 ((rd_T74 l2_5 x37_1).f0))).setCell ⟨Z10, 1, none⟩ (.int .i64 ((rd_T74 l2_5 x37_1).f1))) = w23 at n0_ n1_ n2_ n3_ ⊢
           have HO_9 := n0_; have Z0 := n1_; have Z1 := n2_; have HB := n3_
           clear n0_ n1_ n2_ n3_
           have n0_ := zK (zN HO_9.out)
           have n1_ := zK (zH Z0.out)
           have n2_ := zK (zH Z1.out)
           have n3_ := zK (zE HB.out)
           clear HO_9 Z0 Z1 HB
           have HO_9 := n0_; have Z0 := n1_; have Z1 := n2_; have HB := n3_
           clear n0_ n1_ n2_ n3_
           obtain ⟨Ao25, co25, eo25⟩ := Kd.R_slice HO_9.out
           (first | subst eo25 | (injection eo25 with f1_ f2_ f3_; have f4_ := f1_.symm; have f5_ := f3_.symm; clear f1_ f2_ f3_; subst f4_; subst f5_))
           have p330 : 0 ≤ (((rd_T74 l2_5 x37_1).f0) : Int) := yB (by first | (with_reducible assumption) | assumption)
           have q330 : ((rd_T74 l2_5 x37_1).f0) < (x9_1.length : Int) := yB (by first | (with_reducible assumption) | assumption)
           obtain ⟨ad330, e330, hx330_0⟩ := Kd.at_int (yM HO_9.out).2.2 ((rd_T74 l2_5 x37_1).f0) p330 q330
           cases e330
           replace p330 := yg p330
           replace q330 := yg q330
           have p19 : 0 ≤ (((rd_T74 l2_5 x37_1).f0) : Int) := yB (by first | (with_reducible assumption) | assumption)
           have q19 : (((rd_T74 l2_5 x37_1).f0) : Int) < ((x9_1.length : Int) : Int) := yB (by first | (with_reducible assumption) | assumption)
           obtain ⟨go19, co19, eo19, Z8, gl19, cl19, HG19⟩ := Kd.R_form HO_9.out (by omega)
           (first | cases eo19 | (injection eo19 with ea_ en_ ec_; (first | subst ea_ | (injection ea_ with ea_; subst ea_)); subst ec_; clear en_))
           have GB19 := zK Z8
           have GG19 := zK HG19
           clear Z8 gl19 HG19
           (first | simp only [add_plain] at hx330_0 | skip)
           obtain ⟨hx19_0, hf19_0⟩ := Kd.R_celln 0 HO_9.out (((rd_T74 l2_5 x37_1).f0) : Int) p19 q19
           replace p19 := yg p19
           replace q19 := yg q19
           have HP26 := Kd.R_putn HO_9.out (((rd_T74 l2_5 x37_1).f0) : Int) (wrap64 ((rd x9_1 ((rd_T74 l2_5 x37_1).f0)) + ((rd_T74 l2_5 x37_1).f1)))
           rw [← Ny331.out] at HP26
           have HQ26 := zK HP26
           clear HP26
           refine start_ (n := 10) (S := fun w' => w'.cell? ⟨Z10, 0, none⟩ = some (.int .i64 ((rd_T74 l2_5 x37_1).f0)) ∧ w'.cell? ⟨Z10, 1, none⟩ = some (.int .i64 ((rd_T74 l2_5 x37_1).f1)) ∧ w'.cell? ⟨go19, (((rd_T74 l2_5 x37_1).f0)).toNat, none⟩ = some (.int .i64 (rd x9_1 ((rd_T74 l2_5 x37_1).f0)))) (ds := [9]) #[false, false, false, false, false, false, false, false, false, false] (by kernel_rfl) rfl rfl ⟨(zO Z1.out 0).trans rfl, (zO Z1.out 1).trans rfl, hx330_0⟩ (fun hHeld => ?_); refine with_tabW r22_Weights.tab8 r22_Weights.bits8 (fun HT_ HW_ => ?_)
           generalize w23.drew = w24 at HO_9 Z0 Z1 HB GG19 HQ26 hf19_0 hx19_0 hx330_0 hHeld ⊢
           refine pure_ (i := 0) (N := some 41) (v := ?_) (a' := ?_) #[true, false, false, false, false, false, false, false, false, false] rfl rfl (any_of HT_.out (by kernel_rfl)) (fun _ _ _ h => h) (Or.inl ⟨by rfl, ?_⟩) ?_ ?_
           rotate_left
           ·intro w'
            go_simp
            with_reducible rfl
           rotate_left
           ·simp only [Act.put, zA, zB, zC, i64_w, i32_w]
            rfl
           refine pure_ (i := 1) (N := some 42) (v := ?_) (a' := ?_) #[true, true, false, false, false, false, false, false, false, false] rfl rfl (any_of HT_.out (by kernel_rfl)) (fun _ _ _ h => h) (Or.inl ⟨by rfl, ?_⟩) ?_ ?_
           rotate_left
           ·intro w'
            go_simp
            with_reducible rfl
           rotate_left
           ·simp only [Act.put, zA, zB, zC, i64_w, i32_w]
            rfl
           refine pure_ (i := 5) (N := some 46) (v := ?_) (a' := ?_) #[true, true, false, false, false, true, false, false, false, false] rfl rfl (any_of HT_.out (by kernel_rfl)) (fun _ _ _ h => h) (Or.inl ⟨by rfl, ?_⟩) ?_ ?_
           rotate_left
           ·intro w'
            go_simp
            with_reducible rfl
           rotate_left
           ·simp only [Act.put, zA, zB, zC, i64_w, i32_w]
            rfl
           refine take_ (i := 2) (N := some 43) (v := ?_) (a' := ?_) #[true, true, true, false, false, true, false, false, false, false] rfl rfl (take_ofW HT_.out HW_.out (by kernel_rfl)) (fun _ _ _ h => h) (Or.inl ⟨by rfl, ?_⟩) hHeld ?_ ?_
           rotate_left
           ·rintro w' ⟨s0, s1, s2⟩
            go_simp
            with_reducible rfl
           rotate_left
           ·simp only [Act.put, zA, zB, zC, i64_w, i32_w]
            rfl
           refine pure_ (i := 3) (N := some 44) (v := ?_) (a' := ?_) #[true, true, true, true, false, true, false, false, false, false] rfl rfl (any_of HT_.out (by kernel_rfl)) (fun _ _ _ h => h) (Or.inl ⟨by rfl, ?_⟩) ?_ ?_
           rotate_left
           ·intro w'
            go_simp
            with_reducible rfl
           rotate_left
           ·simp only [Act.put, zA, zB, zC, i64_w, i32_w]
            rfl
           refine take_ (i := 4) (N := some 45) (v := ?_) (a' := ?_) #[true, true, true, true, true, true, false, false, false, false] rfl rfl (take_ofW HT_.out HW_.out (by kernel_rfl)) (fun _ _ _ h => h) (Or.inl ⟨by rfl, ?_⟩) hHeld ?_ ?_
           rotate_left
           ·rintro w' ⟨s0, s1, s2⟩
            go_simp
            with_reducible rfl
           rotate_left
           ·simp only [Act.put, zA, zB, zC, i64_w, i32_w]
            rfl
           refine take_ (i := 6) (N := some 47) (v := ?_) (a' := ?_) #[true, true, true, true, true, true, true, false, false, false] rfl rfl (take_ofW HT_.out HW_.out (by kernel_rfl)) (fun _ _ _ h => h) (Or.inl ⟨by rfl, ?_⟩) hHeld ?_ ?_
           rotate_left
           ·rintro w' ⟨s0, s1, s2⟩
            go_simp
            with_reducible rfl
           rotate_left
           ·simp only [Act.put, zA, zB, zC, i64_w, i32_w]
            rfl
           refine pure_ (i := 7) (N := some 48) (v := ?_) (a' := ?_) #[true, true, true, true, true, true, true, true, false, false] rfl rfl (any_of HT_.out (by kernel_rfl)) (fun _ _ _ h => h) (Or.inl ⟨by rfl, ?_⟩) ?_ ?_
           rotate_left
           ·intro w'
            go_simp
            with_reducible rfl
           rotate_left
           ·simp only [Act.put, zA, zB, zC, i64_w, i32_w]
            rfl
           refine pure_ (i := 8) (N := some 49) (v := ?_) (a' := ?_) #[true, true, true, true, true, true, true, true, true, false] rfl rfl (any_of HT_.out (by kernel_rfl)) (fun _ _ _ h => h) (Or.inl ⟨by rfl, ?_⟩) ?_ ?_
           rotate_left
           ·intro w'
            go_simp
            with_reducible rfl
           rotate_left
           ·simp only [Act.put, zA, zB, zC, i64_w, i32_w]
            rfl
           refine last_ (i := 9) (N := none) #[true, true, true, true, true, true, true, true, true, true] rfl rfl (one_of HT_.out (by kernel_rfl)) (by decide) (fun K hK => ?_)
           refine skip_ (w1 := ?_) (by rfl) rfl ?_ ?_
           rotate_left
           ·go_simp
            rfl
           refine hK.out _ _ ?_
           clear hK K
           refine done_ (done_of HT_.out (by kernel_rfl)) ?_
           try go_wp2
           go_roundg k1
           case measure => have := HK1.out; omega
           case rel => exact ⟨(y331), (wrap64 (x37_1 + 1)), (by first | rfl | (simp; done) | (simp [*]; done)), H', ⟨by have := HK1.out; omega⟩, ⟨by (with_reducible repeat (first | apply zL | apply zM | apply zN)); exact HQ26.out⟩, ⟨by (with_reducible repeat (first | refine zF ?_ _ | refine zH ?_ | refine zG ?_ _)); refine blk_far ?_ (by have h_ := Kd.R_ne HO_9.out Z0.out (by decide); intro e_; exact h_ (by rw [e_]; rfl)) _; (with_reducible repeat (first | refine zF ?_ _ | refine zH ?_ | refine zG ?_ _)); exact Z0.out⟩, ⟨by repeat (first | (with_reducible first | exact HB.out | apply zJ | apply zD | apply zE | refine zI ?_ GB19.out | refine zI ?_ Z2.out | refine zI ?_ Z3.out) | exact HB.out)⟩⟩
          ·rw [if_neg c18] at H
           exact absurd H (by simp)
         ·rw [if_neg c17] at H
          exact absurd H (by simp)
        ·rw [if_neg c16] at H
         exact absurd H (by simp)
       ·rw [if_neg c15] at H
        exact absurd H (by simp)
      ·rw [if_neg c14] at H
       have c14b0 : decide (x37_1 < (l2_5.length : Int)) = false := yD c14
       clear c14
       have H' := zK H
       clear H
       obtain ⟨Ao27, co27, eo27⟩ := Kd.R_slice HO_9.out
       subst eo27
       go_wp2
       go_loopg [12, 13, 53] k1 (fun kq v12 v13 v53 w' => ∃ (x12_2 : Int) (x13_2 : Bool) (x53_2 : Int), v12 = .int .i64 x12_2 ∧ v13 = .bool x13_2 ∧ v53 = .int .i64 x53_2 ∧ Aside0 (r22_Weights.l1 kq l1 x9_1 x12_2 x13_2 x9_1 (x9_1.length : Int) x53_2 a2_0 a2_1 a2_2 a2_3 a2_4 l2_5 = some (r1, r2)) ∧ Aside0 (kq ≤ k1) ∧ Aside0 (Kd.R (Kd.int .i64) 2 w' w.heap.size (fun _ => True) (.slice Ao27 x9_1.length co27) x9_1) ∧ Aside0 (Kd.R (Kd.int .i64) 2 w' w.heap.size (fun _ => True) (.slice Ao27 x9_1.length co27) x9_1) ∧ Aside0 (w'.heap[Z9]? = some (.cells #[.int .i64 a2_0, .int .i64 a2_1, .int .i64 a2_2, .int .i64 a2_3, .int .i64 a2_4, (.slice A2_5 l2_5.length c2_5)] 31 (0, 0))) ∧ Aside0 (Below w.heap.size w w'))
       case atStart => exact ⟨(0), (false), (0), (by first | rfl | (simp; done) | (simp [*]; done)), (by first | rfl | (simp; done) | (simp [*]; done)), (by first | rfl | (simp; done) | (simp [*]; done)), H', ⟨yN _⟩, ⟨by (with_reducible repeat (first | apply zL | apply zM | apply zN)); exact HO_9.out⟩, ⟨by (with_reducible repeat (first | apply zL | apply zM | apply zN)); exact HO_9.out⟩, ⟨by (with_reducible repeat (first | refine zF ?_ _ | refine zH ?_ | refine zG ?_ _)); exact Z0.out⟩, ⟨by repeat (first | (with_reducible first | exact HB.out | apply zJ | apply zD | apply zE | refine zI ?_ Z2.out) | exact HB.out)⟩⟩
       case round =>
        clear H'
        try clear c1
        try clear p1
        try clear q1
        try clear hx1
        try clear c2
        try clear p2
        try clear p3
        try clear q3
        try clear hx3
        try clear c4
        try clear c5
        try clear c5b0
        try clear c5b1
        try clear c6
        try clear p6
        try clear c14
        try clear c14b0
        try clear c15
        try clear c15b0
        try clear c16
        try clear c16b0
        try clear c17
        try clear c17b0
        try clear c18
        try clear c18b0
        try clear p19
        try clear q19
        try clear hx19
        try clear hf19
        try clear c20
        try clear c21
        try clear hcz13_0
        try clear hcz13_1
        try clear hcz13_2
        try clear hcz13_3
        try clear hcz13_4
        try clear hcz13_5
        try clear hcz22_0
        try clear hcz22_1
        try clear hcz8_0
        try clear hcz8_1
        try clear hcz8_2
        try clear hcz8_3
        try clear hcz8_4
        try clear hcz8_5
        try clear hfz13_0
        try clear hfz13_1
        try clear hfz13_2
        try clear hfz13_3
        try clear hfz13_4
        try clear hfz13_5
        try clear hfz22_0
        try clear hfz22_1
        try clear hfz8_0
        try clear hfz8_1
        try clear hfz8_2
        try clear hfz8_3
        try clear hfz8_4
        try clear hfz8_5
        try clear hx19_0
        try clear hx328_0
        try clear hx328_1
        try clear hx330_0
        try clear p19
        try clear p2
        try clear p328
        try clear p330
        try clear q19
        try clear q328
        try clear q330
        obtain ⟨x12_2, x13_2, x53_2, rfl, rfl, rfl, HA, HK2, HO_9, HO_51, Z0, HB⟩ := hrel
        cases gk with
        | zero => exact absurd HA.out (by simp [r22_Weights.l1])
        | succ k2 =>
         have H := HA.out
         clear HA
         simp only [r22_Weights.l1] at H
         by_cases c28 : x53_2 < (x9_1.length : Int)
         ·rw [if_pos c28] at H
          have c28b0 : decide (x53_2 < (x9_1.length : Int)) = true := yC c28
          clear c28
          by_cases c29 : 0 ≤ x53_2
          ·rw [if_pos c29] at H
           have c29b0 : decide (0 ≤ x53_2) = true := yC c29
           clear c29
           by_cases c30 : x53_2 < (x9_1.length : Int)
           ·rw [if_pos c30] at H
            have c30b0 : decide (x53_2 < (x9_1.length : Int)) = true := yC c30
            clear c30
            replace H := yA.mp H
            obtain ⟨t333, A310, H⟩ := H
            replace H : (if t333 = true then (if x13_2 = true then (if (rd x9_1 x53_2) > x12_2 then (r22_Weights.l1 k2 l1 x9_1 (rd x9_1 x53_2) true x9_1 (x9_1.length : Int) (wrap64 (x53_2 + 1)) a2_0 a2_1 a2_2 a2_3 a2_4 l2_5) else (r22_Weights.l1 k2 l1 x9_1 x12_2 x13_2 x9_1 (x9_1.length : Int) (wrap64 (x53_2 + 1)) a2_0 a2_1 a2_2 a2_3 a2_4 l2_5)) else (r22_Weights.l1 k2 l1 x9_1 (rd x9_1 x53_2) true x9_1 (x9_1.length : Int) (wrap64 (x53_2 + 1)) a2_0 a2_1 a2_2 a2_3 a2_4 l2_5)) else (r22_Weights.l1 k2 l1 x9_1 x12_2 x13_2 x9_1 (x9_1.length : Int) (wrap64 (x53_2 + 1)) a2_0 a2_1 a2_2 a2_3 a2_4 l2_5)) = some (r1, r2) := H
            have A31 := zK A310
            clear A310
            by_cases c32 : t333 = true
            ·subst c32
             have H1 : (if x13_2 = true then (if (rd x9_1 x53_2) > x12_2 then (r22_Weights.l1 k2 l1 x9_1 (rd x9_1 x53_2) true x9_1 (x9_1.length : Int) (wrap64 (x53_2 + 1)) a2_0 a2_1 a2_2 a2_3 a2_4 l2_5) else (r22_Weights.l1 k2 l1 x9_1 x12_2 x13_2 x9_1 (x9_1.length : Int) (wrap64 (x53_2 + 1)) a2_0 a2_1 a2_2 a2_3 a2_4 l2_5)) else (r22_Weights.l1 k2 l1 x9_1 (rd x9_1 x53_2) true x9_1 (x9_1.length : Int) (wrap64 (x53_2 + 1)) a2_0 a2_1 a2_2 a2_3 a2_4 l2_5)) = some (r1, r2) := by rw [if_pos rfl] at H; exact H
             clear H
             have H := H1
             clear H1
             by_cases c33 : x13_2 = true
             ·subst c33
              have H1 : (if (rd x9_1 x53_2) > x12_2 then (r22_Weights.l1 k2 l1 x9_1 (rd x9_1 x53_2) true x9_1 (x9_1.length : Int) (wrap64 (x53_2 + 1)) a2_0 a2_1 a2_2 a2_3 a2_4 l2_5) else (r22_Weights.l1 k2 l1 x9_1 x12_2 true x9_1 (x9_1.length : Int) (wrap64 (x53_2 + 1)) a2_0 a2_1 a2_2 a2_3 a2_4 l2_5)) = some (r1, r2) := by rw [if_pos rfl] at H; exact H
              clear H
              have H := H1
              clear H1
              by_cases c34 : (rd x9_1 x53_2) > x12_2
              ·rw [if_pos c34] at H
               have c34b0 : decide (x12_2 < (rd x9_1 x53_2)) = true := yC c34
               clear c34
               have H' := zK H
               clear H
               have p332 : 0 ≤ (x53_2 : Int) := yB (by first | (with_reducible assumption) | assumption)
               have q332 : x53_2 < (x9_1.length : Int) := yB (by first | (with_reducible assumption) | assumption)
               obtain ⟨ad332, e332, hx332_0⟩ := Kd.at_int (yM HO_51.out).2.2 x53_2 p332 q332
               cases e332
               replace p332 := yg p332
               replace q332 := yg q332
               go_wp2_with (first | ((with_reducible refine gate_callee (f := 47) rfl ?_); refine goesL_ (some 60) rfl rfl Try.func47 (by kernel_rfl) rfl #[.slice A1 l1.length c1, .int .i64 x53_2] rfl (by (try simp only [yH, yI, yJ]); first | done | rfl | (simp only [yG, yF]; rfl)) ?_; (with_reducible refine (r22_may.calls _ _ l1 x53_2 true _ ?side1 ?side2 A31.out).mono ?_); (case side1 => repeat (first | exact (yc HR1.out HB.out) | (with_reducible refine yS ?_ _) | (with_reducible refine yT ?_ _) | (with_reducible refine yU ?_))); (case side2 => exact HC1.out); rintro e w' ⟨rfl, ⟨nd, rfl⟩⟩; refine ⟨_, rfl, ?_⟩))
               go_roundg k2
               case measure => have := HK1.out; have := HK2.out; omega
               case rel => exact ⟨(rd x9_1 x53_2), (true), (wrap64 (x53_2 + 1)), (by first | rfl | (simp; done) | (simp [*]; done)), (by first | rfl | (simp; done) | (simp [*]; done)), (by first | rfl | (simp; done) | (simp [*]; done)), H', ⟨by have := HK1.out; have := HK2.out; omega⟩, ⟨by (with_reducible repeat (first | apply zL | apply zM | apply zN)); exact HO_9.out⟩, ⟨by (with_reducible repeat (first | apply zL | apply zM | apply zN)); exact HO_51.out⟩, ⟨by (with_reducible repeat (first | refine zF ?_ _ | refine zH ?_ | refine zG ?_ _)); exact Z0.out⟩, ⟨by repeat (first | (with_reducible first | exact HB.out | apply zJ | apply zD | apply zE | refine zI ?_ Z2.out) | exact HB.out)⟩⟩
              ·rw [if_neg c34] at H
               have c34b0 : decide (x12_2 < (rd x9_1 x53_2)) = false := yD c34
               clear c34
               have H' := zK H
               clear H
               have p332 : 0 ≤ (x53_2 : Int) := yB (by first | (with_reducible assumption) | assumption)
               have q332 : x53_2 < (x9_1.length : Int) := yB (by first | (with_reducible assumption) | assumption)
               obtain ⟨ad332, e332, hx332_0⟩ := Kd.at_int (yM HO_51.out).2.2 x53_2 p332 q332
               cases e332
               replace p332 := yg p332
               replace q332 := yg q332
               go_wp2_with (first | ((with_reducible refine gate_callee (f := 47) rfl ?_); refine goesL_ (some 60) rfl rfl Try.func47 (by kernel_rfl) rfl #[.slice A1 l1.length c1, .int .i64 x53_2] rfl (by (try simp only [yH, yI, yJ]); first | done | rfl | (simp only [yG, yF]; rfl)) ?_; (with_reducible refine (r22_may.calls _ _ l1 x53_2 true _ ?side1 ?side2 A31.out).mono ?_); (case side1 => repeat (first | exact (yc HR1.out HB.out) | (with_reducible refine yS ?_ _) | (with_reducible refine yT ?_ _) | (with_reducible refine yU ?_))); (case side2 => exact HC1.out); rintro e w' ⟨rfl, ⟨nd, rfl⟩⟩; refine ⟨_, rfl, ?_⟩))
               go_roundg k2
               case measure => have := HK1.out; have := HK2.out; omega
               case rel => exact ⟨(x12_2), (true), (wrap64 (x53_2 + 1)), (by first | rfl | (simp; done) | (simp [*]; done)), (by first | rfl | (simp; done) | (simp [*]; done)), (by first | rfl | (simp; done) | (simp [*]; done)), H', ⟨by have := HK1.out; have := HK2.out; omega⟩, ⟨by (with_reducible repeat (first | apply zL | apply zM | apply zN)); exact HO_9.out⟩, ⟨by (with_reducible repeat (first | apply zL | apply zM | apply zN)); exact HO_51.out⟩, ⟨by (with_reducible repeat (first | refine zF ?_ _ | refine zH ?_ | refine zG ?_ _)); exact Z0.out⟩, ⟨by repeat (first | (with_reducible first | exact HB.out | apply zJ | apply zD | apply zE | refine zI ?_ Z2.out) | exact HB.out)⟩⟩
             ·replace c33 := yh.mpr c33
              subst c33
              have H1 : (r22_Weights.l1 k2 l1 x9_1 (rd x9_1 x53_2) true x9_1 (x9_1.length : Int) (wrap64 (x53_2 + 1)) a2_0 a2_1 a2_2 a2_3 a2_4 l2_5) = some (r1, r2) := by rw [if_neg (show ¬ (false = true) by decide)] at H; exact H
              clear H
              have H := H1
              clear H1
              have H' := zK H
              clear H
              have p332 : 0 ≤ (x53_2 : Int) := yB (by first | (with_reducible assumption) | assumption)
              have q332 : x53_2 < (x9_1.length : Int) := yB (by first | (with_reducible assumption) | assumption)
              obtain ⟨ad332, e332, hx332_0⟩ := Kd.at_int (yM HO_51.out).2.2 x53_2 p332 q332
              cases e332
              replace p332 := yg p332
              replace q332 := yg q332
              go_wp2_with (first | ((with_reducible refine gate_callee (f := 47) rfl ?_); refine goesL_ (some 60) rfl rfl Try.func47 (by kernel_rfl) rfl #[.slice A1 l1.length c1, .int .i64 x53_2] rfl (by (try simp only [yH, yI, yJ]); first | done | rfl | (simp only [yG, yF]; rfl)) ?_; (with_reducible refine (r22_may.calls _ _ l1 x53_2 true _ ?side1 ?side2 A31.out).mono ?_); (case side1 => repeat (first | exact (yc HR1.out HB.out) | (with_reducible refine yS ?_ _) | (with_reducible refine yT ?_ _) | (with_reducible refine yU ?_))); (case side2 => exact HC1.out); rintro e w' ⟨rfl, ⟨nd, rfl⟩⟩; refine ⟨_, rfl, ?_⟩))
              go_roundg k2
              case measure => have := HK1.out; have := HK2.out; omega
              case rel => exact ⟨(rd x9_1 x53_2), (true), (wrap64 (x53_2 + 1)), (by first | rfl | (simp; done) | (simp [*]; done)), (by first | rfl | (simp; done) | (simp [*]; done)), (by first | rfl | (simp; done) | (simp [*]; done)), H', ⟨by have := HK1.out; have := HK2.out; omega⟩, ⟨by (with_reducible repeat (first | apply zL | apply zM | apply zN)); exact HO_9.out⟩, ⟨by (with_reducible repeat (first | apply zL | apply zM | apply zN)); exact HO_51.out⟩, ⟨by (with_reducible repeat (first | refine zF ?_ _ | refine zH ?_ | refine zG ?_ _)); exact Z0.out⟩, ⟨by repeat (first | (with_reducible first | exact HB.out | apply zJ | apply zD | apply zE | refine zI ?_ Z2.out) | exact HB.out)⟩⟩
            ·replace c32 := yh.mpr c32
             subst c32
             have H1 : (r22_Weights.l1 k2 l1 x9_1 x12_2 x13_2 x9_1 (x9_1.length : Int) (wrap64 (x53_2 + 1)) a2_0 a2_1 a2_2 a2_3 a2_4 l2_5) = some (r1, r2) := by rw [if_neg (show ¬ (false = true) by decide)] at H; exact H
             clear H
             have H := H1
             clear H1
             have H' := zK H
             clear H
             have p332 : 0 ≤ (x53_2 : Int) := yB (by first | (with_reducible assumption) | assumption)
             have q332 : x53_2 < (x9_1.length : Int) := yB (by first | (with_reducible assumption) | assumption)
             obtain ⟨ad332, e332, hx332_0⟩ := Kd.at_int (yM HO_51.out).2.2 x53_2 p332 q332
             cases e332
             replace p332 := yg p332
             replace q332 := yg q332
             go_wp2_with (first | ((with_reducible refine gate_callee (f := 47) rfl ?_); refine goesL_ (some 60) rfl rfl Try.func47 (by kernel_rfl) rfl #[.slice A1 l1.length c1, .int .i64 x53_2] rfl (by (try simp only [yH, yI, yJ]); first | done | rfl | (simp only [yG, yF]; rfl)) ?_; (with_reducible refine (r22_may.calls _ _ l1 x53_2 false _ ?side1 ?side2 A31.out).mono ?_); (case side1 => repeat (first | exact (yc HR1.out HB.out) | (with_reducible refine yS ?_ _) | (with_reducible refine yT ?_ _) | (with_reducible refine yU ?_))); (case side2 => exact HC1.out); rintro e w' ⟨rfl, ⟨nd, rfl⟩⟩; refine ⟨_, rfl, ?_⟩))
             go_roundg k2
             case measure => have := HK1.out; have := HK2.out; omega
             case rel => exact ⟨(x12_2), (x13_2), (wrap64 (x53_2 + 1)), (by first | rfl | (simp; done) | (simp [*]; done)), (by first | rfl | (simp; done) | (simp [*]; done)), (by first | rfl | (simp; done) | (simp [*]; done)), H', ⟨by have := HK1.out; have := HK2.out; omega⟩, ⟨by (with_reducible repeat (first | apply zL | apply zM | apply zN)); exact HO_9.out⟩, ⟨by (with_reducible repeat (first | apply zL | apply zM | apply zN)); exact HO_51.out⟩, ⟨by (with_reducible repeat (first | refine zF ?_ _ | refine zH ?_ | refine zG ?_ _)); exact Z0.out⟩, ⟨by repeat (first | (with_reducible first | exact HB.out | apply zJ | apply zD | apply zE | refine zI ?_ Z2.out) | exact HB.out)⟩⟩
           ·rw [if_neg c30] at H
            exact absurd H (by simp)
          ·rw [if_neg c29] at H
           exact absurd H (by simp)
         ·rw [if_neg c28] at H
          have c28b0 : decide (x53_2 < (x9_1.length : Int)) = false := yD c28
          clear c28
          by_cases c35 : 0 ≤ (x9_1.length : Int)
          ·rw [if_pos c35] at H
           have c35b0 := yg c35
           have c35b1 : decide (0 ≤ (x9_1.length : Int)) = true := yC c35
           clear c35
           by_cases c36 : ((x9_1.length : Int) : Int).toNat ≤ 35184372088832
           ·rw [if_pos c36] at H
            have c36b0 := yg c36
            have c36b1 : decide (((x9_1.length : Int) : Int).toNat ≤ 35184372088832) = true := yC c36
            clear c36
            obtain ⟨y334, hy334⟩ : ∃ y_ : List Int, y_ = (List.replicate ((x9_1.length : Int) : Int).toNat 0) := ⟨_, rfl⟩
            replace H : (r22_Weights.l2 k2 l1 x12_2 y334 x9_1 (x9_1.length : Int) 0 a2_0 a2_1 a2_2 a2_3 a2_4 l2_5) = some (r1, r2) := by first | (rw [hy334]; with_reducible exact H) | (have H2_ := (yV _ _).symm.trans H; rw [hy334]; with_reducible exact H2_) | (have H2_ := (yV _ _).symm.trans H; with_reducible exact H2_) | with_reducible exact H | (rw [hy334]; exact H) | exact H
            have Ny334 := zK hy334
            clear hy334
            have H' := zK H
            clear H
            go_wp2_with (first | ((with_reducible refine gate_dst (N := 74) rfl ?_); refine Kd.R_make (Kd.int .i64) _ 2 rfl (N := 74) rfl 36 _ _ rfl (x9_1.length : Int) rfl rfl Try.underlying36 (.int .i64 0) 8 info2 rfl (by decide) (by omega) 0 (ok := fun _ => True) (okp := fun _ => True) rfl (fun _ hk => hk) trivial (yB (by first | (with_reducible assumption) | assumption)) (yl (Nat.mul_le_mul_right _ (yB (by first | (with_reducible assumption) | assumption) : (x9_1.length : Int).toNat ≤ 35184372088832)) (by omega)) (Below.refl _ _) (yN _) ?_; intro v335 w37 ho38 hb hg_ hnew_; clear hg_ hnew_; (first | rw [← Ny334.out] at ho38 | (simp only [Int.reduceToNat] at ho38; rw [← Ny334.out] at ho38)); have n0_ := zK (Kd.R_elder' (by (with_reducible repeat (first | apply zL | apply zM | apply zN)); exact HO_9.out) (Kd.R_base ho38) hb); have n1_ := zK (Kd.R_elder' (by (with_reducible repeat (first | apply zL | apply zM | apply zN)); exact HO_51.out) (Kd.R_base ho38) hb); have n2_ := zK (Kd.R_lower (Kd.R_new' (Kd.R_new' ho38 (Kd.R_lt (by (with_reducible repeat (first | apply zL | apply zM | apply zN)); exact HO_9.out))) (Kd.R_lt (by (with_reducible repeat (first | apply zL | apply zM | apply zN)); exact HO_51.out))) (yK (by repeat (first | (with_reducible first | exact HB.out | apply zJ | apply zD | apply zE | refine zI ?_ Z2.out) | exact HB.out)))); have n3_ := zK (zP (g := Z9) (o := .cells #[.int .i64 a2_0, .int .i64 a2_1, .int .i64 a2_2, .int .i64 a2_3, .int .i64 a2_4, .slice A2_5 l2_5.length c2_5] 31 (0, 0)) (by (with_reducible repeat (first | refine zF ?_ _ | refine zH ?_ | refine zG ?_ _)); exact Z0.out) hb); have n4_ := zK (yL (by repeat (first | (with_reducible first | exact HB.out | apply zJ | apply zD | apply zE | refine zI ?_ Z2.out) | exact HB.out)) hb); clear HO_9 HO_51 Z0 HB; have HO_9 := n0_; have HO_51 := n1_; have HO336 := n2_; have Z0 := n3_; have HB := n4_; clear n0_ n1_ n2_ n3_ n4_ hb ho38))
            go_loopg [77] k2 (fun kq v77 w' => ∃ (x16_3 : List Int) (x77_3 : Int), v77 = .int .i64 x77_3 ∧ Aside0 (r22_Weights.l2 kq l1 x12_2 x16_3 x9_1 (x9_1.length : Int) x77_3 a2_0 a2_1 a2_2 a2_3 a2_4 l2_5 = some (r1, r2)) ∧ Aside0 (kq ≤ k2) ∧ Aside0 (Kd.R (Kd.int .i64) 2 w' w.heap.size (fun k_ => some k_ ≠ ((.slice Ao27 x9_1.length co27) : Value).ownBlock) v335 x16_3) ∧ Aside0 (Kd.R (Kd.int .i64) 2 w' w.heap.size (fun k_ => some k_ ≠ (v335 : Value).ownBlock) (.slice Ao27 x9_1.length co27) x9_1) ∧ Aside0 (w'.heap[Z9]? = some (.cells #[.int .i64 a2_0, .int .i64 a2_1, .int .i64 a2_2, .int .i64 a2_3, .int .i64 a2_4, (.slice A2_5 l2_5.length c2_5)] 31 (0, 0))) ∧ Aside0 (Below w.heap.size w w'))
            case atStart => exact ⟨(y334), (0), (by first | rfl | (simp; done) | (simp [*]; done)), H', ⟨yN _⟩, ⟨by (with_reducible repeat (first | apply zL | apply zM | apply zN)); exact yd HO336.out (fun _ hk => hk.1.2)⟩, ⟨by (with_reducible repeat (first | apply zL | apply zM | apply zN)); exact yd HO_9.out (fun _ hk => hk.2)⟩, ⟨by (with_reducible repeat (first | refine zF ?_ _ | refine zH ?_ | refine zG ?_ _)); exact Z0.out⟩, ⟨by repeat (first | (with_reducible first | exact HB.out | apply zJ | apply zD | apply zE | refine zI ?_ Z2.out) | exact HB.out)⟩⟩
            case round =>
             clear H'
             try clear c1
             try clear p1
             try clear q1
             try clear hx1
             try clear c2
             try clear p2
             try clear c3
             try clear p3
             try clear q3
             try clear hx3
             try clear c4
             try clear c5
             try clear c5b0
             try clear c5b1
             try clear c6
             try clear p6
             try clear c14
             try clear c14b0
             try clear c15
             try clear c15b0
             try clear c16
             try clear c16b0
             try clear c17
             try clear c17b0
             try clear c18
             try clear c18b0
             try clear p19
             try clear q19
             try clear hx19
             try clear hf19
             try clear c20
             try clear c21
             try clear c28
             try clear c28b0
             try clear c29
             try clear c29b0
             try clear c30
             try clear c30b0
             try clear c32
             try clear p32
             try clear q32
             try clear hx32
             try clear c33
             try clear p33
             try clear q33
             try clear hx33
             try clear c34
             try clear c34b0
             try clear c35
             try clear c35b0
             try clear c35b1
             try clear c36
             try clear c36b0
             try clear c36b1
             try clear hcz13_0
             try clear hcz13_1
             try clear hcz13_2
             try clear hcz13_3
             try clear hcz13_4
             try clear hcz13_5
             try clear hcz22_0
             try clear hcz22_1
             try clear hcz8_0
             try clear hcz8_1
             try clear hcz8_2
             try clear hcz8_3
             try clear hcz8_4
             try clear hcz8_5
             try clear hfz13_0
             try clear hfz13_1
             try clear hfz13_2
             try clear hfz13_3
             try clear hfz13_4
             try clear hfz13_5
             try clear hfz22_0
             try clear hfz22_1
             try clear hfz8_0
             try clear hfz8_1
             try clear hfz8_2
             try clear hfz8_3
             try clear hfz8_4
             try clear hfz8_5
             try clear hx19_0
             try clear hx328_0
             try clear hx328_1
             try clear hx330_0
             try clear hx332_0
             try clear p1
             try clear p19
             try clear p2
             try clear p3
             try clear p328
             try clear p330
             try clear p332
             try clear p6
             try clear q1
             try clear q19
             try clear q3
             try clear q328
             try clear q330
             try clear q332
             obtain ⟨x16_3, x77_3, rfl, HA, HK3, HO_16, HO_75, Z0, HB⟩ := hrel
             cases gk with
             | zero => exact absurd HA.out (by simp [r22_Weights.l2])
             | succ k3 =>
              have H := HA.out
              clear HA
              simp only [r22_Weights.l2] at H
              by_cases c39 : x77_3 < (x9_1.length : Int)
              ·rw [if_pos c39] at H
               have c39b0 : decide (x77_3 < (x9_1.length : Int)) = true := yC c39
               clear c39
               by_cases c40 : 0 ≤ x77_3
               ·rw [if_pos c40] at H
                have c40b0 : decide (0 ≤ x77_3) = true := yC c40
                clear c40
                by_cases c41 : x77_3 < (x9_1.length : Int)
                ·rw [if_pos c41] at H
                 have c41b0 : decide (x77_3 < (x9_1.length : Int)) = true := yC c41
                 clear c41
                 replace H := yA.mp H
                 obtain ⟨t338, A420, H⟩ := H
                 replace H : (if t338 = true then ((r02_Floor.f (wrap64 ((wrap64 ((rd x9_1 x77_3) - x12_2)) * a2_0)) a2_1).bind fun bt339 => ((r02_Exp2.f k3 (wrap64 (256 * bt339.1))).bind fun t342 => (if x77_3 < (x16_3.length : Int) then (r22_Weights.l2 k3 l1 x12_2 (x16_3.set (x77_3 : Int).toNat t342) x9_1 (x9_1.length : Int) (wrap64 (x77_3 + 1)) a2_0 a2_1 a2_2 a2_3 a2_4 l2_5) else (none)))) else (r22_Weights.l2 k3 l1 x12_2 x16_3 x9_1 (x9_1.length : Int) (wrap64 (x77_3 + 1)) a2_0 a2_1 a2_2 a2_3 a2_4 l2_5)) = some (r1, r2) := H
                 have A42 := zK A420
                 clear A420
                 by_cases c43 : t338 = true
                 ·subst c43
                  have H1 : ((r02_Floor.f (wrap64 ((wrap64 ((rd x9_1 x77_3) - x12_2)) * a2_0)) a2_1).bind fun bt339 => ((r02_Exp2.f k3 (wrap64 (256 * bt339.1))).bind fun t342 => (if x77_3 < (x16_3.length : Int) then (r22_Weights.l2 k3 l1 x12_2 (x16_3.set (x77_3 : Int).toNat t342) x9_1 (x9_1.length : Int) (wrap64 (x77_3 + 1)) a2_0 a2_1 a2_2 a2_3 a2_4 l2_5) else (none)))) = some (r1, r2) := by rw [if_pos rfl] at H; exact H
                  clear H
                  have H := H1
                  clear H1
                  replace H := yA.mp H
                  obtain ⟨⟨t339, t340, t341⟩, A440, H⟩ := H
                  replace H : ((r02_Exp2.f k3 (wrap64 (256 * t339))).bind fun t342 => (if x77_3 < (x16_3.length : Int) then (r22_Weights.l2 k3 l1 x12_2 (x16_3.set (x77_3 : Int).toNat t342) x9_1 (x9_1.length : Int) (wrap64 (x77_3 + 1)) a2_0 a2_1 a2_2 a2_3 a2_4 l2_5) else (none))) = some (r1, r2) := H
                  have A44 := zK A440
                  clear A440
                  replace H := yA.mp H
                  obtain ⟨t342, A450, H⟩ := H
                  replace H : (if x77_3 < (x16_3.length : Int) then (r22_Weights.l2 k3 l1 x12_2 (x16_3.set (x77_3 : Int).toNat t342) x9_1 (x9_1.length : Int) (wrap64 (x77_3 + 1)) a2_0 a2_1 a2_2 a2_3 a2_4 l2_5) else (none)) = some (r1, r2) := H
                  have A45 := zK A450
                  clear A450
                  by_cases c46 : x77_3 < (x16_3.length : Int)
                  ·rw [if_pos c46] at H
                   have c46b0 : decide (x77_3 < (x16_3.length : Int)) = true := yC c46
                   clear c46
                   obtain ⟨y343, hy343⟩ : ∃ y_ : List Int, y_ = (x16_3.set (x77_3 : Int).toNat t342) := ⟨_, rfl⟩
                   replace H : (r22_Weights.l2 k3 l1 x12_2 y343 x9_1 (x9_1.length : Int) (wrap64 (x77_3 + 1)) a2_0 a2_1 a2_2 a2_3 a2_4 l2_5) = some (r1, r2) := by first | (rw [hy343]; with_reducible exact H) | (have H2_ := (yV _ _).symm.trans H; rw [hy343]; with_reducible exact H2_) | (have H2_ := (yV _ _).symm.trans H; with_reducible exact H2_) | with_reducible exact H | (rw [hy343]; exact H) | exact H
                   have Ny343 := zK hy343
                   clear hy343
                   have H' := zK H
                   clear H
                   have p337 : 0 ≤ (x77_3 : Int) := yB (by first | (with_reducible assumption) | assumption)
                   have q337 : x77_3 < (x9_1.length : Int) := yB (by first | (with_reducible assumption) | assumption)
                   obtain ⟨ad337, e337, hx337_0⟩ := Kd.at_int (yM HO_75.out).2.2 x77_3 p337 q337
                   cases e337
                   replace p337 := yg p337
                   replace q337 := yg q337
                   go_wp2_with (first | ((with_reducible refine gate_callee (f := 47) rfl ?_); refine goesL_ (some 84) rfl rfl Try.func47 (by kernel_rfl) rfl #[.slice A1 l1.length c1, .int .i64 x77_3] rfl (by (try simp only [yH, yI, yJ]); first | done | rfl | (simp only [yG, yF]; rfl)) ?_; (with_reducible refine (r22_may.calls _ _ l1 x77_3 true _ ?side1 ?side2 A42.out).mono ?_); (case side1 => repeat (first | exact (yc HR1.out HB.out) | (with_reducible refine yS ?_ _) | (with_reducible refine yT ?_ _) | (with_reducible refine yU ?_))); (case side2 => exact HC1.out); rintro e w' ⟨rfl, ⟨nd, rfl⟩⟩; refine ⟨_, rfl, ?_⟩; (try (rw [drewN_self wr]; generalize hq_ : World.drewN wr _ = wr; have n0_ : Aside0 (Kd.R (Kd.int .i64) 2 wr w.heap.size (fun k_ => some k_ ≠ (.slice (some ad337) x9_1.length co27 : Value).ownBlock) v335 x16_3) := ⟨by rw [← hq_]; exact (by (with_reducible repeat (first | apply zL | apply zM | apply zN)); exact HO_16.out)⟩; have n1_ : Aside0 (Kd.R (Kd.int .i64) 2 wr w.heap.size (fun k_ => some k_ ≠ (v335 : Value).ownBlock) (.slice (some ad337) x9_1.length co27) x9_1) := ⟨by rw [← hq_]; exact (by (with_reducible repeat (first | apply zL | apply zM | apply zN)); exact HO_75.out)⟩; have n2_ : Aside0 (wr.heap[Z9]? = some (.cells #[.int .i64 a2_0, .int .i64 a2_1, .int .i64 a2_2, .int .i64 a2_3, .int .i64 a2_4, .slice A2_5 l2_5.length c2_5] 31 (0, 0))) := ⟨by rw [← hq_]; exact (by (with_reducible repeat (first | refine zF ?_ _ | refine zH ?_ | refine zG ?_ _)); exact Z0.out)⟩; have n3_ : Aside0 (Below w.heap.size w wr) := ⟨by rw [← hq_]; exact (by repeat (first | (with_reducible first | exact HB.out | apply zJ | apply zD | apply zE | refine zI ?_ Z2.out) | exact HB.out))⟩; clear HO_16 HO_75 Z0 HB hq_; have HO_16 := n0_; have HO_75 := n1_; have Z0 := n2_; have HB := n3_; clear n0_ n1_ n2_ n3_)); have hcz48_0 : wr.cell? ⟨Z9, 0, none⟩ = some (.int .i64 a2_0) := (zO Z0.out 0).trans rfl; have hcz48_1 : wr.cell? ⟨Z9, 1, none⟩ = some (.int .i64 a2_1) := (zO Z0.out 1).trans rfl; have hcz48_2 : wr.cell? ⟨Z9, 2, none⟩ = some (.int .i64 a2_2) := (zO Z0.out 2).trans rfl; have hcz48_3 : wr.cell? ⟨Z9, 3, none⟩ = some (.int .i64 a2_3) := (zO Z0.out 3).trans rfl; have hcz48_4 : wr.cell? ⟨Z9, 4, none⟩ = some (.int .i64 a2_4) := (zO Z0.out 4).trans rfl; have hcz48_5 : wr.cell? ⟨Z9, 5, none⟩ = some (.slice A2_5 l2_5.length c2_5) := (zO Z0.out 5).trans rfl; have hfz48_0 := yE Z0.out 0; have hfz48_1 := yE Z0.out 1; have hfz48_2 := yE Z0.out 2; have hfz48_3 := yE Z0.out 3; have hfz48_4 := yE Z0.out 4; have hfz48_5 := yE Z0.out 5) | ((with_reducible refine gate_callee (f := 48) rfl ?_); refine goesL_ (some 94) rfl rfl Try.func48 (by kernel_rfl) rfl #[.int .i64 (wrap64 ((wrap64 ((rd x9_1 x77_3) - x12_2)) * a2_0)), .int .i64 a2_1] rfl (by (try simp only [yH, yI, yJ]); first | done | rfl | (simp only [yG, yF]; rfl)) ?_; (with_reducible refine (r02_Floor.calls (wrap64 ((wrap64 ((rd x9_1 x77_3) - x12_2)) * a2_0)) a2_1 t339 t340 t341 _ A44.out).mono ?_); rintro e w' ⟨rfl, ⟨nd, rfl⟩⟩; refine ⟨_, rfl, ?_⟩; (try (rw [drewN_self wr]; generalize hq_ : World.drewN wr _ = wr; have n0_ : Aside0 (Kd.R (Kd.int .i64) 2 wr w.heap.size (fun k_ => some k_ ≠ (.slice (some ad337) x9_1.length co27 : Value).ownBlock) v335 x16_3) := ⟨by rw [← hq_]; exact (by (with_reducible repeat (first | apply zL | apply zM | apply zN)); exact HO_16.out)⟩; have n1_ : Aside0 (Kd.R (Kd.int .i64) 2 wr w.heap.size (fun k_ => some k_ ≠ (v335 : Value).ownBlock) (.slice (some ad337) x9_1.length co27) x9_1) := ⟨by rw [← hq_]; exact (by (with_reducible repeat (first | apply zL | apply zM | apply zN)); exact HO_75.out)⟩; have n2_ : Aside0 (wr.heap[Z9]? = some (.cells #[.int .i64 a2_0, .int .i64 a2_1, .int .i64 a2_2, .int .i64 a2_3, .int .i64 a2_4, .slice A2_5 l2_5.length c2_5] 31 (0, 0))) := ⟨by rw [← hq_]; exact (by (with_reducible repeat (first | refine zF ?_ _ | refine zH ?_ | refine zG ?_ _)); exact Z0.out)⟩; have n3_ : Aside0 (Below w.heap.size w wr) := ⟨by rw [← hq_]; exact (by repeat (first | (with_reducible first | exact HB.out | apply zJ | apply zD | apply zE | refine zI ?_ Z2.out) | exact HB.out))⟩; clear HO_16 HO_75 Z0 HB hq_; have HO_16 := n0_; have HO_75 := n1_; have Z0 := n2_; have HB := n3_; clear n0_ n1_ n2_ n3_))) | ((with_reducible refine gate_callee (f := 49) rfl ?_); refine goesL_ (some 102) rfl rfl Try.func49 (by kernel_rfl) rfl #[.int .i64 (wrap64 (256 * t339))] rfl (by (try simp only [yH, yI, yJ]); first | done | rfl | (simp only [yG, yF]; rfl)) ?_; (with_reducible refine (r02_Exp2.calls k3 (wrap64 (256 * t339)) t342 _ A45.out).mono ?_); rintro e w' ⟨rfl, ⟨nd, rfl⟩⟩; refine ⟨_, rfl, ?_⟩; (try (rw [drewN_self wr]; generalize hq_ : World.drewN wr _ = wr; have n0_ : Aside0 (Kd.R (Kd.int .i64) 2 wr w.heap.size (fun k_ => some k_ ≠ (.slice (some ad337) x9_1.length co27 : Value).ownBlock) v335 x16_3) := ⟨by rw [← hq_]; exact (by (with_reducible repeat (first | apply zL | apply zM | apply zN)); exact HO_16.out)⟩; have n1_ : Aside0 (Kd.R (Kd.int .i64) 2 wr w.heap.size (fun k_ => some k_ ≠ (v335 : Value).ownBlock) (.slice (some ad337) x9_1.length co27) x9_1) := ⟨by rw [← hq_]; exact (by (with_reducible repeat (first | apply zL | apply zM | apply zN)); exact HO_75.out)⟩; have n2_ : Aside0 (wr.heap[Z9]? = some (.cells #[.int .i64 a2_0, .int .i64 a2_1, .int .i64 a2_2, .int .i64 a2_3, .int .i64 a2_4, .slice A2_5 l2_5.length c2_5] 31 (0, 0))) := ⟨by rw [← hq_]; exact (by (with_reducible repeat (first | refine zF ?_ _ | refine zH ?_ | refine zG ?_ _)); exact Z0.out)⟩; have n3_ : Aside0 (Below w.heap.size w wr) := ⟨by rw [← hq_]; exact (by repeat (first | (with_reducible first | exact HB.out | apply zJ | apply zD | apply zE | refine zI ?_ Z2.out) | exact HB.out))⟩; clear HO_16 HO_75 Z0 HB hq_; have HO_16 := n0_; have HO_75 := n1_; have Z0 := n2_; have HB := n3_; clear n0_ n1_ n2_ n3_)); have p47 : 0 ≤ (x77_3 : Int) := yB (by first | (with_reducible assumption) | assumption); have q47 : (x77_3 : Int) < ((x16_3.length : Int) : Int) := yB (by first | (with_reducible assumption) | assumption); obtain ⟨go47, co47, eo47, Z11, gl47, cl47, HG47⟩ := Kd.R_form HO_16.out (by omega); (first | cases eo47 | (injection eo47 with ea_ en_ ec_; (first | subst ea_ | (injection ea_ with ea_; subst ea_)); subst ec_; clear en_)); have GB47 := zK Z11; have GG47 := zK HG47; clear Z11 gl47 HG47; obtain ⟨hx47_0, hf47_0⟩ := Kd.R_celln 0 HO_16.out (x77_3 : Int) p47 q47; replace p47 := yg p47; replace q47 := yg q47; obtain ⟨hy49_, hz49_⟩ := Kd.R_celln 0 HO_16.out (x77_3 : Int) (yB (by first | (with_reducible assumption) | assumption)) (yB (by first | (with_reducible assumption) | assumption)); have HP49 := Kd.R_putg HO_16.out (x77_3 : Int) t342) | ((with_reducible refine gate_store (t := 2) (p := 103) rfl ?_); refine store_event (t := 2) (p := 103) (v := ?vo_w50) (w1 := (wr.setCell ⟨go47, (x77_3 : Int).toNat, none⟩ (.int .i64 t342))) ?hg ?ho ?hn ?hr ?_; (case ho => rfl); (case hg => rfl); (case hn => rfl); (case hr => first | (go_simp; done) | (go_simp; rfl)); intro w50 hw; have hg : wr.grownBy w50 (some go47) := (by rw [hw]; exact HP49.2); have hp_ : Kd.R (Kd.int .i64) 2 w50 w.heap.size (fun k_ => some k_ ≠ (.slice (some ad337) x9_1.length co27 : Value).ownBlock) (.slice (some ⟨go47, 0, none⟩) x16_3.length co47) y343 := (by rw [hw, Ny343.out]; exact HP49.1); clear HP49; have n0_ := zK (hp_); have n1_ := zK (Kd.R_after (v := (.slice (some ⟨go47, 0, none⟩) x16_3.length co47)) (v1 := (.slice (some ⟨go47, 0, none⟩) x16_3.length co47)) (ok := (fun _ => True)) (by (with_reducible repeat (first | apply zL | apply zM | apply zN)); exact yd HO_75.out (fun _ hk => ⟨trivial, hk⟩)) hg (.inl rfl)); have n2_ := zK (blk_grown (g := Z9) (o := .cells #[.int .i64 a2_0, .int .i64 a2_1, .int .i64 a2_2, .int .i64 a2_3, .int .i64 a2_4, .slice A2_5 l2_5.length c2_5] 31 (0, 0)) (by (with_reducible repeat (first | refine zF ?_ _ | refine zH ?_ | refine zG ?_ _)); exact Z0.out) hg (Kd.R_ne HO_16.out Z0.out (by decide))); have n3_ := zK ((by rw [hw]; exact zI (HB.out) GB47.out : Below w.heap.size w w50)); clear HO_16 HO_75 Z0 HB; have HO_16 := n0_; have HO_75 := n1_; have Z0 := n2_; have HB := n3_; clear n0_ n1_ n2_ n3_ hg hw hp_))
                   go_roundg k3
                   case measure => have := HK1.out; have := HK2.out; have := HK3.out; omega
                   case rel => exact ⟨(y343), (wrap64 (x77_3 + 1)), (by first | rfl | (simp; done) | (simp [*]; done)), H', ⟨by have := HK1.out; have := HK2.out; have := HK3.out; omega⟩, ⟨by (with_reducible repeat (first | apply zL | apply zM | apply zN)); exact HO_16.out⟩, ⟨by (with_reducible repeat (first | apply zL | apply zM | apply zN)); exact yd HO_75.out (fun _ hk => hk.2)⟩, ⟨by (with_reducible repeat (first | refine zF ?_ _ | refine zH ?_ | refine zG ?_ _)); exact Z0.out⟩, ⟨by repeat (first | (with_reducible first | exact HB.out | apply zJ | apply zD | apply zE | refine zI ?_ Z2.out) | exact HB.out)⟩⟩
                  ·rw [if_neg c46] at H
                   exact absurd H (by simp)
                 ·replace c43 := yh.mpr c43
                  subst c43
                  have H1 : (r22_Weights.l2 k3 l1 x12_2 x16_3 x9_1 (x9_1.length : Int) (wrap64 (x77_3 + 1)) a2_0 a2_1 a2_2 a2_3 a2_4 l2_5) = some (r1, r2) := by rw [if_neg (show ¬ (false = true) by decide)] at H; exact H
                  clear H
                  have H := H1
                  clear H1
                  have H' := zK H
                  clear H
                  have p337 : 0 ≤ (x77_3 : Int) := yB (by first | (with_reducible assumption) | assumption)
                  have q337 : x77_3 < (x9_1.length : Int) := yB (by first | (with_reducible assumption) | assumption)
                  obtain ⟨ad337, e337, hx337_0⟩ := Kd.at_int (yM HO_75.out).2.2 x77_3 p337 q337
                  cases e337
                  replace p337 := yg p337
                  replace q337 := yg q337
                  go_wp2_with (first | ((with_reducible refine gate_callee (f := 47) rfl ?_); refine goesL_ (some 84) rfl rfl Try.func47 (by kernel_rfl) rfl #[.slice A1 l1.length c1, .int .i64 x77_3] rfl (by (try simp only [yH, yI, yJ]); first | done | rfl | (simp only [yG, yF]; rfl)) ?_; (with_reducible refine (r22_may.calls _ _ l1 x77_3 false _ ?side1 ?side2 A42.out).mono ?_); (case side1 => repeat (first | exact (yc HR1.out HB.out) | (with_reducible refine yS ?_ _) | (with_reducible refine yT ?_ _) | (with_reducible refine yU ?_))); (case side2 => exact HC1.out); rintro e w' ⟨rfl, ⟨nd, rfl⟩⟩; refine ⟨_, rfl, ?_⟩))
                  go_roundg k3
                  case measure => have := HK1.out; have := HK2.out; have := HK3.out; omega
                  case rel => exact ⟨(x16_3), (wrap64 (x77_3 + 1)), (by first | rfl | (simp; done) | (simp [*]; done)), H', ⟨by have := HK1.out; have := HK2.out; have := HK3.out; omega⟩, ⟨by (with_reducible repeat (first | apply zL | apply zM | apply zN)); exact HO_16.out⟩, ⟨by (with_reducible repeat (first | apply zL | apply zM | apply zN)); exact HO_75.out⟩, ⟨by (with_reducible repeat (first | refine zF ?_ _ | refine zH ?_ | refine zG ?_ _)); exact Z0.out⟩, ⟨by repeat (first | (with_reducible first | exact HB.out | apply zJ | apply zD | apply zE | refine zI ?_ Z2.out) | exact HB.out)⟩⟩
                ·rw [if_neg c41] at H
                 exact absurd H (by simp)
               ·rw [if_neg c40] at H
                exact absurd H (by simp)
              ·rw [if_neg c39] at H
               have c39b0 : decide (x77_3 < (x9_1.length : Int)) = false := yD c39
               clear c39
               have HC51 := zK H
               clear H
               have hcz52_0 : wr.cell? ⟨Z9, 0, none⟩ = some (.int .i64 a2_0) := (zO Z0.out 0).trans rfl
               have hcz52_1 : wr.cell? ⟨Z9, 1, none⟩ = some (.int .i64 a2_1) := (zO Z0.out 1).trans rfl
               have hcz52_2 : wr.cell? ⟨Z9, 2, none⟩ = some (.int .i64 a2_2) := (zO Z0.out 2).trans rfl
               have hcz52_3 : wr.cell? ⟨Z9, 3, none⟩ = some (.int .i64 a2_3) := (zO Z0.out 3).trans rfl
               have hcz52_4 : wr.cell? ⟨Z9, 4, none⟩ = some (.int .i64 a2_4) := (zO Z0.out 4).trans rfl
               have hcz52_5 : wr.cell? ⟨Z9, 5, none⟩ = some (.slice A2_5 l2_5.length c2_5) := (zO Z0.out 5).trans rfl
               have hfz52_0 := yE Z0.out 0
               have hfz52_1 := yE Z0.out 1
               have hfz52_2 := yE Z0.out 2
               have hfz52_3 := yE Z0.out 3
               have hfz52_4 := yE Z0.out 4
               have hfz52_5 := yE Z0.out 5
               go_upto_if 107 with (fail)
               go_cut [16] (fun v16 wc => ∃ (kq : Nat) (x16_50 : List Int), Aside0 (r22_Weights.j3 kq x16_50 a2_0 a2_1 a2_2 a2_3 a2_4 l2_5 = some (r1, r2)) ∧ Aside0 (kq ≤ k3) ∧ Aside0 (Kd.R (Kd.int .i64) 2 wc w.heap.size (fun _ => True) v16 x16_50) ∧ Aside0 (wc.heap[Z9]? = some (.cells #[.int .i64 a2_0, .int .i64 a2_1, .int .i64 a2_2, .int .i64 a2_3, .int .i64 a2_4, (.slice A2_5 l2_5.length c2_5)] 31 (0, 0))) ∧ Aside0 (Below w.heap.size w wc))
               case first =>
                have H := HC51.out
                clear HC51
                by_cases c53 : a2_2 > 0
                ·rw [if_pos c53] at H
                 have c53b0 : decide (0 < a2_2) = true := yC c53
                 clear c53
                 (first | rw [c53b0] | (simp only [i64_w, i32_w]; rw [c53b0]) | skip)
                 replace H := yA.mp H
                 obtain ⟨t344, A540, H⟩ := H
                 replace H : ((r22_only.f k3 x16_3 t344).bind fun t347 => (r22_Weights.j3 k3 t347 a2_0 a2_1 a2_2 a2_3 a2_4 l2_5)) = some (r1, r2) := H
                 have A54 := zK A540
                 clear A540
                 replace H := yA.mp H
                 obtain ⟨t347, A550, H⟩ := H
                 replace H : (r22_Weights.j3 k3 t347 a2_0 a2_1 a2_2 a2_3 a2_4 l2_5) = some (r1, r2) := H
                 have A55 := zK A550
                 clear A550
                 have H' := zK H
                 clear H
                 have hcz56_0 : wr.cell? ⟨Z9, 0, none⟩ = some (.int .i64 a2_0) := (zO Z0.out 0).trans rfl
                 have hcz56_1 : wr.cell? ⟨Z9, 1, none⟩ = some (.int .i64 a2_1) := (zO Z0.out 1).trans rfl
                 have hcz56_2 : wr.cell? ⟨Z9, 2, none⟩ = some (.int .i64 a2_2) := (zO Z0.out 2).trans rfl
                 have hcz56_3 : wr.cell? ⟨Z9, 3, none⟩ = some (.int .i64 a2_3) := (zO Z0.out 3).trans rfl
                 have hcz56_4 : wr.cell? ⟨Z9, 4, none⟩ = some (.int .i64 a2_4) := (zO Z0.out 4).trans rfl
                 have hcz56_5 : wr.cell? ⟨Z9, 5, none⟩ = some (.slice A2_5 l2_5.length c2_5) := (zO Z0.out 5).trans rfl
                 have hfz56_0 := yE Z0.out 0
                 have hfz56_1 := yE Z0.out 1
                 have hfz56_2 := yE Z0.out 2
                 have hfz56_3 := yE Z0.out 3
                 have hfz56_4 := yE Z0.out 4
                 have hfz56_5 := yE Z0.out 5
                 obtain ⟨Ao57, co57, eo57⟩ := Kd.R_slice HO_16.out
                 subst eo57
                 go_wp2_with (first | ((with_reducible refine gate_callee (f := 51) rfl ?_); refine goesL_ (some 112) rfl rfl Try.func51 (by kernel_rfl) rfl #[.slice Ao57 x16_3.length co57, .int .i64 a2_2] rfl (by (try simp only [yH, yI, yJ]); first | done | rfl | (simp only [yG, yF]; rfl)) ?_; (with_reducible refine (r07_Top.calls k3 _ _ x16_3 a2_2 t344 _ ?side1 ?side2 A54.out).mono ?_); (case side1 => repeat (first | exact (yM HO_16.out).2.2 | (with_reducible refine yS ?_ _) | (with_reducible refine yT ?_ _) | (with_reducible refine yU ?_))); (case side2 => exact (yM HO_16.out).2.1); rintro e w58 ⟨v345, rfl, ho0, hb⟩; refine ⟨_, rfl, ?_⟩; have n0_ := zK (yb (by (with_reducible repeat (first | apply zL | apply zM | apply zN)); exact HO_16.out) hb); have n1_ := zK (yb (by (with_reducible repeat (first | apply zL | apply zM | apply zN)); exact HO_75.out) hb); have n2_ := zK (Kd.R_lower ho0 (yK (by repeat (first | (with_reducible first | exact HB.out | apply zJ | apply zD | apply zE | refine zI ?_ Z2.out) | exact HB.out)))); have n3_ := zK (zP (g := Z9) (o := .cells #[.int .i64 a2_0, .int .i64 a2_1, .int .i64 a2_2, .int .i64 a2_3, .int .i64 a2_4, .slice A2_5 l2_5.length c2_5] 31 (0, 0)) (by (with_reducible repeat (first | refine zF ?_ _ | refine zH ?_ | refine zG ?_ _)); exact Z0.out) hb); have n4_ := zK (yL (by repeat (first | (with_reducible first | exact HB.out | apply zJ | apply zD | apply zE | refine zI ?_ Z2.out) | exact HB.out)) hb); clear HO_16 HO_75 Z0 HB; have HO_16 := n0_; have HO_75 := n1_; have HO346 := n2_; have Z0 := n3_; have HB := n4_; clear n0_ n1_ n2_ n3_ n4_; (try clear hb); (try clear hb2); (try clear hk); (try clear hi); (try clear ho0); obtain ⟨Ao59, co59, eo59⟩ := Kd.R_slice HO346.out; subst eo59) | ((with_reducible refine gate_callee (f := 50) rfl ?_); refine goesL_ (some 113) rfl rfl Try.func50 (by kernel_rfl) rfl #[.slice Ao57 x16_3.length co57, .slice Ao59 t344.length co59] rfl (by (try simp only [yH, yI, yJ]); first | done | rfl | (simp only [yG, yF]; rfl)) ?_; (with_reducible refine (r22_only.calls k3 _ _ x16_3 _ _ t344 t347 _ ?side1 ?side2 ?side3 ?side4 A55.out).mono ?_); (case side1 => repeat (first | exact (yM HO_16.out).2.2 | (with_reducible refine yS ?_ _) | (with_reducible refine yT ?_ _) | (with_reducible refine yU ?_))); (case side2 => exact (yM HO_16.out).2.1); (case side3 => repeat (first | exact (yM HO346.out).2.2 | (with_reducible refine yS ?_ _) | (with_reducible refine yT ?_ _) | (with_reducible refine yU ?_))); (case side4 => exact (yM HO346.out).2.1); rintro e w60 ⟨v348, rfl, ho0, hb⟩; refine ⟨_, rfl, ?_⟩; have n0_ := zK (Kd.R_elder' (by (with_reducible repeat (first | apply zL | apply zM | apply zN)); exact HO_16.out) (Kd.R_base ho0) hb); have n1_ := zK (Kd.R_elder' (by (with_reducible repeat (first | apply zL | apply zM | apply zN)); exact HO_75.out) (Kd.R_base ho0) hb); have n2_ := zK (yb (by (with_reducible repeat (first | apply zL | apply zM | apply zN)); exact HO346.out) hb); have n3_ := zK (Kd.R_lower (Kd.R_new' (Kd.R_new' ho0 (Kd.R_lt (by (with_reducible repeat (first | apply zL | apply zM | apply zN)); exact HO_16.out))) (Kd.R_lt (by (with_reducible repeat (first | apply zL | apply zM | apply zN)); exact HO_75.out))) (yK (by repeat (first | (with_reducible first | exact HB.out | apply zJ | apply zD | apply zE | refine zI ?_ Z2.out) | exact HB.out)))); have n4_ := zK (zP (g := Z9) (o := .cells #[.int .i64 a2_0, .int .i64 a2_1, .int .i64 a2_2, .int .i64 a2_3, .int .i64 a2_4, .slice A2_5 l2_5.length c2_5] 31 (0, 0)) (by (with_reducible repeat (first | refine zF ?_ _ | refine zH ?_ | refine zG ?_ _)); exact Z0.out) hb); have n5_ := zK (yL (by repeat (first | (with_reducible first | exact HB.out | apply zJ | apply zD | apply zE | refine zI ?_ Z2.out) | exact HB.out)) hb); clear HO_16 HO_75 HO346 Z0 HB; have HO_16 := n0_; have HO_75 := n1_; have HO346 := n2_; have HO349 := n3_; have Z0 := n4_; have HB := n5_; clear n0_ n1_ n2_ n3_ n4_ n5_; (try clear hb); (try clear hb2); (try clear hk); (try clear hi); (try clear ho0)))
                 go_meet
                 case rel => exact ⟨_, (t347), H', ⟨by have := HK1.out; have := HK2.out; have := HK3.out; first | omega | exact yN _⟩, ⟨by (with_reducible repeat (first | apply zL | apply zM | apply zN)); exact yd HO349.out (fun _ hk => trivial)⟩, ⟨by (with_reducible repeat (first | refine zF ?_ _ | refine zH ?_ | refine zG ?_ _)); exact Z0.out⟩, ⟨by repeat (first | (with_reducible first | exact HB.out | apply zJ | apply zD | apply zE | refine zI ?_ Z2.out) | exact HB.out)⟩⟩
                ·rw [if_neg c53] at H
                 have c53b0 : decide (0 < a2_2) = false := yD c53
                 clear c53
                 (first | rw [c53b0] | (simp only [i64_w, i32_w]; rw [c53b0]) | skip)
                 have H' := zK H
                 clear H
                 go_wp2
                 go_meet
                 case rel => exact ⟨_, (x16_3), H', ⟨by have := HK1.out; have := HK2.out; have := HK3.out; first | omega | exact yN _⟩, ⟨by (with_reducible repeat (first | apply zL | apply zM | apply zN)); exact yd HO_16.out (fun _ hk => trivial)⟩, ⟨by (with_reducible repeat (first | refine zF ?_ _ | refine zH ?_ | refine zG ?_ _)); exact Z0.out⟩, ⟨by repeat (first | (with_reducible first | exact HB.out | apply zJ | apply zD | apply zE | refine zI ?_ Z2.out) | exact HB.out)⟩⟩
               case rest =>
                clear HC51
                try clear c1
                try clear p1
                try clear q1
                try clear hx1
                try clear c2
                try clear p2
                try clear c3
                try clear p3
                try clear q3
                try clear hx3
                try clear c4
                try clear p4
                try clear q4
                try clear hx4
                try clear hf4
                try clear c5
                try clear c5b0
                try clear c5b1
                try clear c6
                try clear p6
                try clear c14
                try clear c14b0
                try clear c15
                try clear c15b0
                try clear c16
                try clear c16b0
                try clear c17
                try clear c17b0
                try clear c18
                try clear c18b0
                try clear p19
                try clear q19
                try clear hx19
                try clear hf19
                try clear c20
                try clear c21
                try clear c28
                try clear c28b0
                try clear c29
                try clear c29b0
                try clear c30
                try clear c30b0
                try clear c32
                try clear p32
                try clear q32
                try clear hx32
                try clear c33
                try clear p33
                try clear q33
                try clear hx33
                try clear c34
                try clear c34b0
                try clear c35
                try clear c35b0
                try clear c35b1
                try clear c36
                try clear c36b0
                try clear c36b1
                try clear c39
                try clear c39b0
                try clear c40
                try clear c40b0
                try clear c41
                try clear c41b0
                try clear c43
                try clear c46
                try clear c46b0
                try clear c47
                try clear p47
                try clear q47
                try clear hx47
                try clear hf47
                try clear c48
                try clear c49
                try clear c50
                try clear c51
                try clear c53
                try clear c53b0
                try clear hcz13_0
                try clear hcz13_1
                try clear hcz13_2
                try clear hcz13_3
                try clear hcz13_4
                try clear hcz13_5
                try clear hcz22_0
                try clear hcz22_1
                try clear hcz48_0
                try clear hcz48_1
                try clear hcz48_2
                try clear hcz48_3
                try clear hcz48_4
                try clear hcz48_5
                try clear hcz52_0
                try clear hcz52_1
                try clear hcz52_2
                try clear hcz52_3
                try clear hcz52_4
                try clear hcz52_5
                try clear hcz56_0
                try clear hcz56_1
                try clear hcz56_2
                try clear hcz56_3
                try clear hcz56_4
                try clear hcz56_5
                try clear hcz8_0
                try clear hcz8_1
                try clear hcz8_2
                try clear hcz8_3
                try clear hcz8_4
                try clear hcz8_5
                try clear hfz13_0
                try clear hfz13_1
                try clear hfz13_2
                try clear hfz13_3
                try clear hfz13_4
                try clear hfz13_5
                try clear hfz22_0
                try clear hfz22_1
                try clear hfz48_0
                try clear hfz48_1
                try clear hfz48_2
                try clear hfz48_3
                try clear hfz48_4
                try clear hfz48_5
                try clear hfz52_0
                try clear hfz52_1
                try clear hfz52_2
                try clear hfz52_3
                try clear hfz52_4
                try clear hfz52_5
                try clear hfz56_0
                try clear hfz56_1
                try clear hfz56_2
                try clear hfz56_3
                try clear hfz56_4
                try clear hfz56_5
                try clear hfz8_0
                try clear hfz8_1
                try clear hfz8_2
                try clear hfz8_3
                try clear hfz8_4
                try clear hfz8_5
                try clear hx19_0
                try clear hx328_0
                try clear hx328_1
                try clear hx330_0
                try clear hx332_0
                try clear hx337_0
                try clear hx47_0
                try clear p1
                try clear p19
                try clear p2
                try clear p3
                try clear p32
                try clear p328
                try clear p33
                try clear p330
                try clear p332
                try clear p337
                try clear p47
                try clear p6
                try clear q1
                try clear q19
                try clear q3
                try clear q32
                try clear q328
                try clear q33
                try clear q330
                try clear q332
                try clear q337
                try clear q47
                obtain ⟨kq, x16_50, HA, HJ50, HO_16, Z0, HB⟩ := hcut
                cases kq with
                | zero => exact absurd HA.out (by simp [r22_Weights.j3])
                | succ kj50 =>
                 have H := HA.out
                 clear HA
                 simp only [r22_Weights.j3] at H
                 replace H := yA.mp H
                 obtain ⟨⟨t350, t351⟩, A610, H⟩ := H
                 replace H : ((r22_only.f kj50 x16_50 t350).bind fun t354 => ((r22_Total.f a2_0 a2_1 a2_2 a2_3 a2_4 l2_5).bind fun t357 => ((r07_Share.f kj50 t354 t357).bind fun bt358 => (some (bt358.1, bt358.2))))) = some (r1, r2) := H
                 have A61 := zK A610
                 clear A610
                 replace H := yA.mp H
                 obtain ⟨t354, A620, H⟩ := H
                 replace H : ((r22_Total.f a2_0 a2_1 a2_2 a2_3 a2_4 l2_5).bind fun t357 => ((r07_Share.f kj50 t354 t357).bind fun bt358 => (some (bt358.1, bt358.2)))) = some (r1, r2) := H
                 have A62 := zK A620
                 clear A620
                 replace H := yA.mp H
                 obtain ⟨t357, A630, H⟩ := H
                 replace H : ((r07_Share.f kj50 t354 t357).bind fun bt358 => (some (bt358.1, bt358.2))) = some (r1, r2) := H
                 have A63 := zK A630
                 clear A630
                 replace H := yA.mp H
                 obtain ⟨⟨t358, t359⟩, A640, H⟩ := H
                 replace H : (some (t358, t359)) = some (r1, r2) := H
                 have A64 := zK A640
                 clear A640
                 simp only [yZ, ya] at H
                 obtain ⟨rfl, rfl⟩ := H
                 have hcz65_0 : wc.cell? ⟨Z9, 0, none⟩ = some (.int .i64 a2_0) := (zO Z0.out 0).trans rfl
                 have hcz65_1 : wc.cell? ⟨Z9, 1, none⟩ = some (.int .i64 a2_1) := (zO Z0.out 1).trans rfl
                 have hcz65_2 : wc.cell? ⟨Z9, 2, none⟩ = some (.int .i64 a2_2) := (zO Z0.out 2).trans rfl
                 have hcz65_3 : wc.cell? ⟨Z9, 3, none⟩ = some (.int .i64 a2_3) := (zO Z0.out 3).trans rfl
                 have hcz65_4 : wc.cell? ⟨Z9, 4, none⟩ = some (.int .i64 a2_4) := (zO Z0.out 4).trans rfl
                 have hcz65_5 : wc.cell? ⟨Z9, 5, none⟩ = some (.slice A2_5 l2_5.length c2_5) := (zO Z0.out 5).trans rfl
                 have hfz65_0 := yE Z0.out 0
                 have hfz65_1 := yE Z0.out 1
                 have hfz65_2 := yE Z0.out 2
                 have hfz65_3 := yE Z0.out 3
                 have hfz65_4 := yE Z0.out 4
                 have hfz65_5 := yE Z0.out 5
                 obtain ⟨Ao66, co66, eo66⟩ := Kd.R_slice HO_16.out
                 subst eo66
                 try go_wp2_with (first | ((with_reducible refine gate_callee (f := 52) rfl ?_); refine goesL_ (some 118) rfl rfl Try.func52 (by kernel_rfl) rfl #[.slice Ao66 x16_50.length co66, .int .i64 a2_3] rfl (by (try simp only [yH, yI, yJ]); first | done | rfl | (simp only [yG, yF]; rfl)) ?_; (with_reducible refine (r07_Nucleus.calls kj50 _ _ x16_50 a2_3 t350 t351 _ ?side1 ?side2 A61.out).mono ?_); (case side1 => repeat (first | exact (yM HO_16.out).2.2 | (with_reducible refine yS ?_ _) | (with_reducible refine yT ?_ _) | (with_reducible refine yU ?_))); (case side2 => exact (yM HO_16.out).2.1); rintro e w67 ⟨v352, rfl, ho0, hb⟩; refine ⟨_, rfl, ?_⟩; have n0_ := zK (yb (by (with_reducible repeat (first | apply zL | apply zM | apply zN)); exact HO_16.out) hb); have n1_ := zK (Kd.R_lower ho0 (yK (by repeat (first | (with_reducible first | exact HB.out | apply zJ | apply zD | apply zE | refine zI ?_ Z2.out) | exact HB.out)))); have n2_ := zK (zP (g := Z9) (o := .cells #[.int .i64 a2_0, .int .i64 a2_1, .int .i64 a2_2, .int .i64 a2_3, .int .i64 a2_4, .slice A2_5 l2_5.length c2_5] 31 (0, 0)) (by (with_reducible repeat (first | refine zF ?_ _ | refine zH ?_ | refine zG ?_ _)); exact Z0.out) hb); have n3_ := zK (yL (by repeat (first | (with_reducible first | exact HB.out | apply zJ | apply zD | apply zE | refine zI ?_ Z2.out) | exact HB.out)) hb); clear HO_16 Z0 HB; have HO_16 := n0_; have HO353 := n1_; have Z0 := n2_; have HB := n3_; clear n0_ n1_ n2_ n3_; (try clear hb); (try clear hb2); (try clear hk); (try clear hi); (try clear ho0)))
                 have n0_ := zK (zN HO_16.out)
                 have n1_ := zK (zN HO353.out)
                 have n2_ := zK (zH Z0.out)
                 have n3_ := zK (zE HB.out)
                 clear HO_16 HO353 Z0 HB
                 have HO_16 := n0_; have HO353 := n1_; have Z0 := n2_; have HB := n3_
                 clear n0_ n1_ n2_ n3_
                 obtain ⟨Ao69, co69, eo69⟩ := Kd.R_slice HO353.out
                 (first | subst eo69 | (injection eo69 with f1_ f2_ f3_; have f4_ := f1_.symm; have f5_ := f3_.symm; clear f1_ f2_ f3_; subst f4_; subst f5_))
                 refine start_ (n := 10) (S := fun w' => w'.cell? ⟨Z9, 0, none⟩ = some (.int .i64 a2_0) ∧ w'.cell? ⟨Z9, 1, none⟩ = some (.int .i64 a2_1) ∧ w'.cell? ⟨Z9, 2, none⟩ = some (.int .i64 a2_2) ∧ w'.cell? ⟨Z9, 3, none⟩ = some (.int .i64 a2_3) ∧ w'.cell? ⟨Z9, 4, none⟩ = some (.int .i64 a2_4) ∧ w'.cell? ⟨Z9, 5, none⟩ = some (.slice A2_5 l2_5.length c2_5)) (ds := []) #[false, false, false, false, false, false, false, false, false, false] (by kernel_rfl) rfl rfl ⟨(zO Z0.out 0).trans rfl, (zO Z0.out 1).trans rfl, (zO Z0.out 2).trans rfl, (zO Z0.out 3).trans rfl, (zO Z0.out 4).trans rfl, (zO Z0.out 5).trans rfl⟩ (fun hHeld => ?_); refine with_tabW r22_Weights.tab28 r22_Weights.bits28 (fun HT_ HW_ => ?_)
                 generalize w67.drew = w68 at HO_16 HO353 Z0 HB hHeld ⊢
                 refine pure_ (i := 0) (N := some 121) (v := ?_) (a' := ?_) #[true, false, false, false, false, false, false, false, false, false] rfl rfl (any_of HT_.out (by kernel_rfl)) (fun _ _ _ h => h) (Or.inl ⟨by rfl, ?_⟩) ?_ ?_
                 rotate_left
                 ·intro w'
                  go_simp
                  with_reducible rfl
                 rotate_left
                 ·simp only [Act.put, zA, zB, zC, i64_w, i32_w]
                  rfl
                 refine pure_ (i := 1) (N := some 122) (v := ?_) (a' := ?_) #[true, true, false, false, false, false, false, false, false, false] rfl rfl (any_of HT_.out (by kernel_rfl)) (fun _ _ _ h => h) (Or.inl ⟨by rfl, ?_⟩) ?_ ?_
                 rotate_left
                 ·intro w'
                  go_simp
                  with_reducible rfl
                 rotate_left
                 ·simp only [Act.put, zA, zB, zC, i64_w, i32_w]
                  rfl
                 refine take_ (i := 3) (N := some 124) (v := ?_) (a' := ?_) #[true, true, false, true, false, false, false, false, false, false] rfl rfl (take_ofW HT_.out HW_.out (by kernel_rfl)) (fun _ _ _ h => h) (Or.inl ⟨by rfl, ?_⟩) hHeld ?_ ?_
                 rotate_left
                 ·rintro w' ⟨s0, s1, s2, s3, s4, s5⟩
                  go_simp
                  with_reducible rfl
                 rotate_left
                 ·simp only [Act.put, zA, zB, zC, i64_w, i32_w]
                  rfl
                 refine one_ (i := 2) (N := some 123) #[true, true, true, true, false, false, false, false, false, false] rfl rfl (one_of HT_.out (by kernel_rfl)) (by decide) (fun K hK => ?_)
                 refine goes_ Try.func50 (by kernel_rfl) rfl #[.slice Ao66 x16_50.length co66, .slice Ao69 t350.length co69] (by rfl) rfl rfl (by (try simp only [yH, yI, yJ]); first | done | rfl | (simp only [yG, yF]; rfl)) ?_
                 with_reducible refine (r22_only.calls kj50 _ _ x16_50 _ _ t350 t354 _ ?side1 ?side2 ?side3 ?side4 A62.out).mono ?_
                 (case side1 => repeat (first | exact (yM HO_16.out).2.2 | (with_reducible refine yS ?_ _) | (with_reducible refine yT ?_ _) | (with_reducible refine yU ?_)))
                 (case side2 => exact (yM HO_16.out).2.1)
                 (case side3 => repeat (first | exact (yM HO353.out).2.2 | (with_reducible refine yS ?_ _) | (with_reducible refine yT ?_ _) | (with_reducible refine yU ?_)))
                 (case side4 => exact (yM HO353.out).2.1)
                 rintro e w70 ⟨v355, rfl, ho0, hb⟩
                 refine ⟨_, rfl, ?_⟩
                 have n0_ := zK (Kd.R_elder' (by (with_reducible repeat (first | apply zL | apply zM | apply zN)); exact HO_16.out) (Kd.R_base ho0) hb)
                 have n1_ := zK (yb (by (with_reducible repeat (first | apply zL | apply zM | apply zN)); exact HO353.out) hb)
                 have n2_ := zK (Kd.R_lower (Kd.R_new' ho0 (Kd.R_lt (by (with_reducible repeat (first | apply zL | apply zM | apply zN)); exact HO_16.out))) (yK (by repeat (first | (with_reducible first | exact HB.out | apply zJ | apply zD | apply zE | refine zI ?_ Z2.out) | exact HB.out))))
                 have n3_ := zK (zP (g := Z9) (o := .cells #[.int .i64 a2_0, .int .i64 a2_1, .int .i64 a2_2, .int .i64 a2_3, .int .i64 a2_4, .slice A2_5 l2_5.length c2_5] 31 (0, 0)) (by (with_reducible repeat (first | refine zF ?_ _ | refine zH ?_ | refine zG ?_ _)); exact Z0.out) hb)
                 have n4_ := zK (yL (by repeat (first | (with_reducible first | exact HB.out | apply zJ | apply zD | apply zE | refine zI ?_ Z2.out) | exact HB.out)) hb)
                 clear HO_16 HO353 Z0 HB
                 have HO_16 := n0_; have HO353 := n1_; have HO356 := n2_; have Z0 := n3_; have HB := n4_
                 clear n0_ n1_ n2_ n3_ n4_
                 (try clear hb)
                 (try clear hb2)
                 (try clear hk)
                 (try clear hi)
                 (try clear ho0)
                 refine hK.out _ _ ⟨(zO Z0.out 0).trans rfl, (zO Z0.out 1).trans rfl, (zO Z0.out 2).trans rfl, (zO Z0.out 3).trans rfl, (zO Z0.out 4).trans rfl, (zO Z0.out 5).trans rfl⟩ (fun hHeld => ?_)
                 clear hK K
                 refine norm_ (a' := ?_) ?_ ?_
                 rotate_left
                 ·show Act.put _ (some 123) _ = _
                  simp only [Act.put, zA, zB, zC, i64_w, i32_w]
                  rfl
                 refine one_ (i := 4) (N := some 125) #[true, true, true, true, true, false, false, false, false, false] rfl rfl (one_of HT_.out (by kernel_rfl)) (by decide) (fun K hK => ?_)
                 refine goes_ Try.func18 (by kernel_rfl) rfl #[.agg #[.int .i64 a2_0, .int .i64 a2_1, .int .i64 a2_2, .int .i64 a2_3, .int .i64 a2_4, .slice A2_5 l2_5.length c2_5]] (by rfl) rfl rfl (by (try simp only [yH, yI, yJ]); first | done | rfl | (simp only [yG, yF]; rfl)) ?_
                 with_reducible refine (r22_Total.calls a2_0 a2_1 a2_2 a2_3 a2_4 _ _ l2_5 t357 _ ?side1 ?side2 A63.out).mono ?_
                 (case side1 => repeat (first | exact (yc HR2_5.out HB.out) | (with_reducible refine yS ?_ _) | (with_reducible refine yT ?_ _) | (with_reducible refine yU ?_)))
                 (case side2 => exact HC2_5.out)
                 rintro e w71 ⟨rfl, hb⟩
                 refine ⟨_, rfl, ?_⟩
                 have n0_ := zK (yb (by (with_reducible repeat (first | apply zL | apply zM | apply zN)); exact HO_16.out) hb)
                 have n1_ := zK (yb (by (with_reducible repeat (first | apply zL | apply zM | apply zN)); exact HO353.out) hb)
                 have n2_ := zK (yb (by (with_reducible repeat (first | apply zL | apply zM | apply zN)); exact HO356.out) hb)
                 have n3_ := zK (zP (g := Z9) (o := .cells #[.int .i64 a2_0, .int .i64 a2_1, .int .i64 a2_2, .int .i64 a2_3, .int .i64 a2_4, .slice A2_5 l2_5.length c2_5] 31 (0, 0)) (by (with_reducible repeat (first | refine zF ?_ _ | refine zH ?_ | refine zG ?_ _)); exact Z0.out) hb)
                 have n4_ := zK (yL (by repeat (first | (with_reducible first | exact HB.out | apply zJ | apply zD | apply zE | refine zI ?_ Z2.out) | exact HB.out)) hb)
                 clear HO_16 HO353 HO356 Z0 HB
                 have HO_16 := n0_; have HO353 := n1_; have HO356 := n2_; have Z0 := n3_; have HB := n4_
                 clear n0_ n1_ n2_ n3_ n4_
                 (try clear hb)
                 (try clear hb2)
                 (try clear hk)
                 (try clear hi)
                 obtain ⟨Ao72, co72, eo72⟩ := Kd.R_slice HO356.out
                 (first | subst eo72 | (injection eo72 with f1_ f2_ f3_; have f4_ := f1_.symm; have f5_ := f3_.symm; clear f1_ f2_ f3_; subst f4_; subst f5_))
                 refine hK.out _ _ ⟨(zO Z0.out 0).trans rfl, (zO Z0.out 1).trans rfl, (zO Z0.out 2).trans rfl, (zO Z0.out 3).trans rfl, (zO Z0.out 4).trans rfl, (zO Z0.out 5).trans rfl⟩ (fun hHeld => ?_)
                 clear hK K
                 refine norm_ (a' := ?_) ?_ ?_
                 rotate_left
                 ·show Act.put _ (some 125) _ = _
                  simp only [Act.put, zA, zB, zC, i64_w, i32_w]
                  rfl
                 refine one_ (i := 5) (N := some 126) #[true, true, true, true, true, true, false, false, false, false] rfl rfl (one_of HT_.out (by kernel_rfl)) (by decide) (fun K hK => ?_)
                 refine goes_ Try.func53 (by kernel_rfl) rfl #[.slice Ao72 t354.length co72, .int .i64 t357] (by rfl) rfl rfl (by (try simp only [yH, yI, yJ]); first | done | rfl | (simp only [yG, yF]; rfl)) ?_
                 with_reducible refine (r07_Share.calls kj50 _ _ t354 t357 t358 t359 _ ?side1 ?side2 A64.out).mono ?_
                 (case side1 => repeat (first | exact (yM HO356.out).2.2 | (with_reducible refine yS ?_ _) | (with_reducible refine yT ?_ _) | (with_reducible refine yU ?_)))
                 (case side2 => exact (yM HO356.out).2.1)
                 rintro e w73 ⟨v360, rfl, ho0, hb⟩
                 refine ⟨_, rfl, ?_⟩
                 have n0_ := zK (Kd.R_elder' (by (with_reducible repeat (first | apply zL | apply zM | apply zN)); exact HO_16.out) (Kd.R_base ho0) hb)
                 have n1_ := zK (yb (by (with_reducible repeat (first | apply zL | apply zM | apply zN)); exact HO353.out) hb)
                 have n2_ := zK (Kd.R_elder' (by (with_reducible repeat (first | apply zL | apply zM | apply zN)); exact HO356.out) (Kd.R_base ho0) hb)
                 have n3_ := zK (Kd.R_lower (Kd.R_new' (Kd.R_new' ho0 (Kd.R_lt (by (with_reducible repeat (first | apply zL | apply zM | apply zN)); exact HO_16.out))) (Kd.R_lt (by (with_reducible repeat (first | apply zL | apply zM | apply zN)); exact HO356.out))) (yK (by repeat (first | (with_reducible first | exact HB.out | apply zJ | apply zD | apply zE | refine zI ?_ Z2.out) | exact HB.out))))
                 have n4_ := zK (zP (g := Z9) (o := .cells #[.int .i64 a2_0, .int .i64 a2_1, .int .i64 a2_2, .int .i64 a2_3, .int .i64 a2_4, .slice A2_5 l2_5.length c2_5] 31 (0, 0)) (by (with_reducible repeat (first | refine zF ?_ _ | refine zH ?_ | refine zG ?_ _)); exact Z0.out) hb)
                 have n5_ := zK (yL (by repeat (first | (with_reducible first | exact HB.out | apply zJ | apply zD | apply zE | refine zI ?_ Z2.out) | exact HB.out)) hb)
                 clear HO_16 HO353 HO356 Z0 HB
                 have HO_16 := n0_; have HO353 := n1_; have HO356 := n2_; have HO361 := n3_; have Z0 := n4_; have HB := n5_
                 clear n0_ n1_ n2_ n3_ n4_ n5_
                 (try clear hb)
                 (try clear hb2)
                 (try clear hk)
                 (try clear hi)
                 (try clear ho0)
                 refine hK.out _ _ ⟨(zO Z0.out 0).trans rfl, (zO Z0.out 1).trans rfl, (zO Z0.out 2).trans rfl, (zO Z0.out 3).trans rfl, (zO Z0.out 4).trans rfl, (zO Z0.out 5).trans rfl⟩ (fun hHeld => ?_)
                 clear hK K
                 refine norm_ (a' := ?_) ?_ ?_
                 rotate_left
                 ·show Act.put _ (some 126) _ = _
                  simp only [Act.put, zA, zB, zC, i64_w, i32_w]
                  rfl
                 refine pure_ (i := 6) (N := some 127) (v := ?_) (a' := ?_) #[true, true, true, true, true, true, true, false, false, false] rfl rfl (any_of HT_.out (by kernel_rfl)) (fun _ _ _ h => h) (Or.inl ⟨by rfl, ?_⟩) ?_ ?_
                 rotate_left
                 ·intro w'
                  go_simp
                  with_reducible rfl
                 rotate_left
                 ·simp only [Act.put, zA, zB, zC, i64_w, i32_w]
                  rfl
                 refine pure_ (i := 7) (N := some 128) (v := ?_) (a' := ?_) #[true, true, true, true, true, true, true, true, false, false] rfl rfl (any_of HT_.out (by kernel_rfl)) (fun _ _ _ h => h) (Or.inl ⟨by rfl, ?_⟩) ?_ ?_
                 rotate_left
                 ·intro w'
                  go_simp
                  with_reducible rfl
                 rotate_left
                 ·simp only [Act.put, zA, zB, zC, i64_w, i32_w]
                  rfl
                 refine pure_ (i := 8) (N := some 6) (v := ?_) (a' := ?_) #[true, true, true, true, true, true, true, true, true, false] rfl rfl (any_of HT_.out (by kernel_rfl)) (fun _ _ _ h => h) (Or.inl ⟨by rfl, ?_⟩) ?_ ?_
                 rotate_left
                 ·intro w'
                  go_simp
                  with_reducible rfl
                 rotate_left
                 ·simp only [Act.put, zA, zB, zC, i64_w, i32_w]
                  rfl
                 refine pure_ (i := 9) (N := some 7) (v := ?_) (a' := ?_) #[true, true, true, true, true, true, true, true, true, true] rfl rfl (any_of HT_.out (by kernel_rfl)) (fun _ _ _ h => h) (Or.inl ⟨by rfl, ?_⟩) ?_ ?_
                 rotate_left
                 ·intro w'
                  go_simp
                  with_reducible rfl
                 rotate_left
                 ·simp only [Act.put, zA, zB, zC, i64_w, i32_w]
                  rfl
                 refine done_ (done_of HT_.out (by kernel_rfl)) ?_
                 try go_wp2
                 go_ret2
                 exact ⟨_, by first | rfl | (simp [errW_none, errW_some] <;> rfl) | (simp [*, errW_none, errW_some] <;> rfl), by (with_reducible repeat (first | apply zL | apply zM | apply zN)); exact yd HO361.out (fun _ hk => trivial), by repeat (first | (with_reducible first | exact HB.out | apply zJ | apply zD | apply zE | refine zI ?_ Z2.out) | exact HB.out)⟩
           ·rw [if_neg c36] at H
            exact absurd H (by simp)
          ·rw [if_neg c35] at H
           exact absurd H (by simp)
   ·rw [if_neg c6] at H
    exact absurd H (by simp)
  ·rw [if_neg c5] at H
   have c5b0 : (t321 == 0) = false := beq_eq_false_iff_ne.mpr c5
   have c5b1 : (t321 != 0) = true := bne_iff_ne.mpr c5
   simp only [yZ, ya] at H
   obtain ⟨rfl, rfl⟩ := H
   go_enter Try.func20, Try.ntmps20
   go_wp2_with (first | ((with_reducible refine gate_dst (N := 5) rfl ?_); refine box_event ?hg (N := 5) ?hd (cs := #[.int .i64 a2_0, .int .i64 a2_1, .int .i64 a2_2, .int .i64 a2_3, .int .i64 a2_4, .slice A2_5 l2_5.length c2_5]) (t := 31) ?hr ?_; (case hd => rfl); (case hg => rfl); (case hr => first | (go_simp; done) | (go_simp; rfl)); intro Z9 hg w74 hbox hb; have n0_ := zK (yL (by repeat (first | (with_reducible first | exact HB.out | apply zJ | apply zD | apply zE) | exact HB.out)) hb); have n1_ := zK (hbox); have n2_ := zK ((by rw [hg]; exact (yK (by repeat (first | (with_reducible first | exact HB.out | apply zJ | apply zD | apply zE) | exact HB.out))) : w.heap.size ≤ Z9)); have n3_ := zK ((by rw [hg]; exact (yK (by repeat (first | (with_reducible first | exact HB.out | apply zJ | apply zD | apply zE) | exact HB.out))) : w.heap.size ≤ Z9)); clear HB; have HB := n0_; have Z0 := n1_; have Z4 := n2_; have Z2 := n3_; clear n0_ n1_ n2_ n3_ hb hbox hg; have hcz75_0 : w74.cell? ⟨Z9, 0, none⟩ = some (.int .i64 a2_0) := (zO Z0.out 0).trans rfl; have hcz75_1 : w74.cell? ⟨Z9, 1, none⟩ = some (.int .i64 a2_1) := (zO Z0.out 1).trans rfl; have hcz75_2 : w74.cell? ⟨Z9, 2, none⟩ = some (.int .i64 a2_2) := (zO Z0.out 2).trans rfl; have hcz75_3 : w74.cell? ⟨Z9, 3, none⟩ = some (.int .i64 a2_3) := (zO Z0.out 3).trans rfl; have hcz75_4 : w74.cell? ⟨Z9, 4, none⟩ = some (.int .i64 a2_4) := (zO Z0.out 4).trans rfl; have hcz75_5 : w74.cell? ⟨Z9, 5, none⟩ = some (.slice A2_5 l2_5.length c2_5) := (zO Z0.out 5).trans rfl; have hfz75_0 := yE Z0.out 0; have hfz75_1 := yE Z0.out 1; have hfz75_2 := yE Z0.out 2; have hfz75_3 := yE Z0.out 3; have hfz75_4 := yE Z0.out 4; have hfz75_5 := yE Z0.out 5) | ((with_reducible refine gate_callee (f := 46) rfl ?_); refine goesL_ (some 27) rfl rfl Try.func46 (by kernel_rfl) rfl #[.slice A0 l0.length c0, .slice A1 l1.length c1, .agg #[.int .i64 a2_0, .int .i64 a2_1, .int .i64 a2_2, .int .i64 a2_3, .int .i64 a2_4, .slice A2_5 l2_5.length c2_5]] rfl (by (try simp only [yH, yI, yJ]); first | done | rfl | (simp only [yG, yF]; rfl)) ?_; (with_reducible refine (r22_wrong.calls k _ _ l0 _ _ l1 a2_0 a2_1 a2_2 a2_3 a2_4 _ _ l2_5 t321 _ ?side1 ?side2 ?side3 ?side4 ?side5 ?side6 A4.out).mono ?_); (case side1 => repeat (first | exact (yc HR0.out HB.out) | (with_reducible refine yS ?_ _) | (with_reducible refine yT ?_ _) | (with_reducible refine yU ?_))); (case side2 => exact HC0.out); (case side3 => repeat (first | exact (yc HR1.out HB.out) | (with_reducible refine yS ?_ _) | (with_reducible refine yT ?_ _) | (with_reducible refine yU ?_))); (case side4 => exact HC1.out); (case side5 => repeat (first | exact (yc HR2_5.out HB.out) | (with_reducible refine yS ?_ _) | (with_reducible refine yT ?_ _) | (with_reducible refine yU ?_))); (case side6 => exact HC2_5.out); rintro e w76 ⟨rfl, hb⟩; refine ⟨_, rfl, ?_⟩; have n0_ := zK (zP (g := Z9) (o := .cells #[.int .i64 a2_0, .int .i64 a2_1, .int .i64 a2_2, .int .i64 a2_3, .int .i64 a2_4, .slice A2_5 l2_5.length c2_5] 31 (0, 0)) (by (with_reducible repeat (first | refine zF ?_ _ | refine zH ?_ | refine zG ?_ _)); exact Z0.out) hb); have n1_ := zK (yL (by repeat (first | (with_reducible first | exact HB.out | apply zJ | apply zD | apply zE | refine zI ?_ Z2.out) | exact HB.out)) hb); clear Z0 HB; have Z0 := n0_; have HB := n1_; clear n0_ n1_; (try clear hb); (try clear hb2); (try clear hk); (try clear hi)))
   go_ret2
   exact ⟨_, by first | rfl | (simp [errW_none, errW_some] <;> rfl) | (simp [*, errW_none, errW_some] <;> rfl), by first | exact Kd.R_nil _ _ _ _ _ | exact Kd.N_nil _ _ _ _ _ | exact Kd.V_nil _ _ _ _ _ | exact Kd.Q_nil _ _ _ _ _ | exact Kd.S_nil _ _ _ _ _, by repeat (first | (with_reducible first | exact HB.out | apply zJ | apply zD | apply zE | refine zI ?_ Z2.out) | exact HB.out)⟩

end Go.Proofs.Ythmckhfjaleomaa.T
