-- Printed by this session's own driver (wip/tools/xprint.py) over the kit's printer; given functions are this session's own.
import Derived.Test.YthmckhfjaleomaaT0
import Derived.Test.YthmckhfjaleomaaT8
import Derived.Test.YthmckhfjaleomaaT13
namespace Go.Proofs.Ythmckhfjaleomaa.T
open Go.RowKit Go.Proofs.YthmckhfjaleomaaW.PrintWords Go.Proofs.YthmckhfjaleomaaW.PrintLast Go.Proofs.YthmckhfjaleomaaW.PrintMore
attribute [local go_sem] max2_int min2_int max_two min_two max_three min_three max_four min_four   -- for this text's walks alone
set_option linter.unusedVariables false
set_option linter.unusedSimpArgs false

/-! ### w22_right: function 22 -/
def w22_right.f (k : Nat) (l0_0 : List Int) (l0_1 : List Bool) (a1_0 : Int) (a1_1 : Int) (a1_2 : Int) (a1_3 : Int) (a1_4 : Int) (l1_5 : List (S46)) : Option (Bool) := (w22_plain.f k a1_0 a1_1 a1_2 a1_3 a1_4 l1_5).bind fun bt410 => ((r22_Weights.f k l0_0 l0_1 bt410.1 bt410.2.1 bt410.2.2.1 bt410.2.2.2.1 bt410.2.2.2.2.1 bt410.2.2.2.2.2).bind fun bt418 => (some (bt418.2 == 0)))
theorem w22_right.mono : ∀ a0 a1 a2 a3 a4 a5 a6 a7 k, LeO (w22_right.f k a0 a1 a2 a3 a4 a5 a6 a7) (w22_right.f (k + 1) a0 a1 a2 a3 a4 a5 a6 a7) := by
  intro a0 a1 a2 a3 a4 a5 a6 a7 k
  unfold w22_right.f
  repeat' first
      | (with_reducible exact r22_Weights.mono _ _ _ _ _ _ _ _ _)
      | (with_reducible exact w22_plain.mono _ _ _ _ _ _ _)
      | (with_reducible exact yR _)
      | (with_reducible exact yO _)
      | (with_reducible refine yQ ?_ ?_)
      | (with_reducible refine yP ?_ (fun _ => ?_))
      | exact r22_Weights.mono _ _ _ _ _ _ _ _ _
      | exact w22_plain.mono _ _ _ _ _ _ _
      | exact yO _
      | refine yQ ?_ ?_
      | refine yP ?_ (fun _ => ?_)
def w22_right.T1 : Bool × List (List Nat × List Nat) := (true, [([], []), ([0], [0]), ([], []), ([2], [2]), ([], []), ([4], [4]), ([1, 3, 5, 5], [1, 3, 5]), ([6], [6]), ([7], [7]), ([7], [7]), ([8, 6, 0, 1, 2, 3, 4, 5, 6, 7, 8], [8]), ([9, 10, 0, 1, 2, 3, 4, 5, 6, 7, 8, 9, 10], [9])])
def w22_right.B1 : List Nat := [0, 1, 0, 4, 0, 16, 63, 127, 255, 255, 511, 2047]
theorem w22_right.tab1 : rtab .any (opsOf Try.f22 1) = w22_right.T1 := by kernel_rfl
theorem w22_right.bits1 : waitsOk w22_right.T1.2 w22_right.B1 = true := by kernel_rfl
set_option maxHeartbeats 8000000 in
set_option maxRecDepth 100000 in
theorem w22_right.calls (k : Nat) (A0_0 : Option Addr) (c0_0 : Nat) (l0_0 : List Int) (A0_1 : Option Addr) (c0_1 : Nat) (l0_1 : List Bool) (a1_0 : Int) (a1_1 : Int) (a1_2 : Int) (a1_3 : Int) (a1_4 : Int) (A1_5 : Option Addr) (c1_5 : Nat) (l1_5 : List (S46)) (r : Bool) (w : World) (hr0_0 : Kd.C (Kd.int .i64) w A0_0 l0_0.length l0_0) (hc0_0 : l0_0.length ≤ c0_0) (hr0_1 : Kd.C Kd.bool w A0_1 l0_1.length l0_1) (hc0_1 : l0_1.length ≤ c0_1) (hr1_5 : Kd.C k46 w A1_5 l1_5.length l1_5) (hc1_5 : l1_5.length ≤ c1_5) (h : w22_right.f k l0_0 l0_1 a1_0 a1_1 a1_2 a1_3 a1_4 l1_5 = some r) :
    Calls Try.prog 22 #[.agg #[.slice A0_0 l0_0.length c0_0, .slice A0_1 l0_1.length c0_1], .agg #[.int .i64 a1_0, .int .i64 a1_1, .int .i64 a1_2, .int .i64 a1_3, .int .i64 a1_4, .slice A1_5 l1_5.length c1_5]] w fun e w' => e = .returned (.bool r) ∧ Below w.heap.size w w' := by
  have hu39 := Try.underlying39
  have hu24 := Try.underlying24
  have HR0_0 := zK hr0_0
  have HC0_0 := zK hc0_0
  clear hr0_0 hc0_0
  have HR0_1 := zK hr0_1
  have HC0_1 := zK hc0_1
  clear hr0_1 hc0_1
  have HR1_5 := zK hr1_5
  have HC1_5 := zK hc1_5
  clear hr1_5 hc1_5
  have HB := zK (Below.refl w.heap.size w)
  have H : ((w22_plain.f k a1_0 a1_1 a1_2 a1_3 a1_4 l1_5).bind fun bt410 => ((r22_Weights.f k l0_0 l0_1 bt410.1 bt410.2.1 bt410.2.2.1 bt410.2.2.2.1 bt410.2.2.2.2.1 bt410.2.2.2.2.2).bind fun bt418 => (some (bt418.2 == 0)))) = some r := h
  clear h
  replace H := yA.mp H
  obtain ⟨⟨t410, t411, t412, t413, t414, t415⟩, A30, H⟩ := H
  replace H : ((r22_Weights.f k l0_0 l0_1 t410 t411 t412 t413 t414 t415).bind fun bt418 => (some (bt418.2 == 0))) = some r := H
  have A3 := zK A30
  clear A30
  replace H := yA.mp H
  obtain ⟨⟨t418, t421⟩, A40, H⟩ := H
  replace H : (some (t421 == 0)) = some r := H
  have A4 := zK A40
  clear A40
  obtain rfl := yY H
  go_enter Try.func22, Try.ntmps22
  try go_wp2_with (first | ((with_reducible refine gate_dst (N := 2) rfl ?_); refine box_event ?hg (N := 2) ?hd (cs := #[.slice A0_0 l0_0.length c0_0, .slice A0_1 l0_1.length c0_1]) (t := 39) ?hr ?_; (case hd => rfl); (case hg => rfl); (case hr => first | (go_simp; done) | (go_simp; rfl)); intro Z11 hg w5 hbox hb; have n0_ := zK (yL (by repeat (first | (with_reducible first | exact HB.out | apply zJ | apply zD | apply zE) | exact HB.out)) hb); have n1_ := zK (hbox); have n2_ := zK ((by rw [hg]; exact (yK (by repeat (first | (with_reducible first | exact HB.out | apply zJ | apply zD | apply zE) | exact HB.out))) : w.heap.size ≤ Z11)); have n3_ := zK ((by rw [hg]; exact (yK (by repeat (first | (with_reducible first | exact HB.out | apply zJ | apply zD | apply zE) | exact HB.out))) : w.heap.size ≤ Z11)); clear HB; have HB := n0_; have Z0 := n1_; have Z6 := n2_; have Z3 := n3_; clear n0_ n1_ n2_ n3_ hb hbox hg) | ((with_reducible refine gate_dst (N := 3) rfl ?_); refine box_event ?hg (N := 3) ?hd (cs := #[.int .i64 a1_0, .int .i64 a1_1, .int .i64 a1_2, .int .i64 a1_3, .int .i64 a1_4, .slice A1_5 l1_5.length c1_5]) (t := 24) ?hr ?_; (case hd => rfl); (case hg => rfl); (case hr => first | (go_simp; done) | (go_simp; rfl)); intro Z12 hg w6 hbox hb; have n0_ := zK (zP (g := Z11) (o := .cells #[.slice A0_0 l0_0.length c0_0, .slice A0_1 l0_1.length c0_1] 39 (0, 0)) (by (with_reducible repeat (first | refine zF ?_ _ | refine zH ?_ | refine zG ?_ _)); exact Z0.out) hb); have n1_ := zK (yL (by repeat (first | (with_reducible first | exact HB.out | apply zJ | apply zD | apply zE | refine zI ?_ Z3.out) | exact HB.out)) hb); have n2_ := zK (hbox); have n3_ := zK ((by rw [hg]; exact (yK (by repeat (first | (with_reducible first | exact HB.out | apply zJ | apply zD | apply zE | refine zI ?_ Z3.out) | exact HB.out))) : w.heap.size ≤ Z12)); have n4_ := zK ((by rw [hg]; exact (yK (by repeat (first | (with_reducible first | exact HB.out | apply zJ | apply zD | apply zE | refine zI ?_ Z3.out) | exact HB.out))) : w.heap.size ≤ Z12)); have n5_ := zK ((by rw [hg]; exact ym (yo (g := Z11) (o := .cells #[.slice A0_0 l0_0.length c0_0, .slice A0_1 l0_1.length c0_1] 39 (0, 0)) (by (with_reducible repeat (first | refine zF ?_ _ | refine zH ?_ | refine zG ?_ _)); exact Z0.out)) : Z11 ≠ Z12)); have n6_ := zK ((by rw [hg]; exact yn (yo (g := Z11) (o := .cells #[.slice A0_0 l0_0.length c0_0, .slice A0_1 l0_1.length c0_1] 39 (0, 0)) (by (with_reducible repeat (first | refine zF ?_ _ | refine zH ?_ | refine zG ?_ _)); exact Z0.out)) : Z12 ≠ Z11)); clear Z0 HB; have Z0 := n0_; have HB := n1_; have Z1 := n2_; have Z7 := n3_; have Z4 := n4_; have Z9 := n5_; have Z10 := n6_; clear n0_ n1_ n2_ n3_ n4_ n5_ n6_ hb hbox hg))
  have n0_ := zK (zH Z0.out)
  have n1_ := zK (zH Z1.out)
  have n2_ := zK (zE HB.out)
  clear Z0 Z1 HB
  have Z0 := n0_; have Z1 := n1_; have HB := n2_
  clear n0_ n1_ n2_
  refine start_ (n := 12) (S := fun w' => w'.cell? ⟨Z11, 0, none⟩ = some (.slice A0_0 l0_0.length c0_0) ∧ w'.cell? ⟨Z11, 1, none⟩ = some (.slice A0_1 l0_1.length c0_1) ∧ w'.cell? ⟨Z12, 0, none⟩ = some (.int .i64 a1_0) ∧ w'.cell? ⟨Z12, 1, none⟩ = some (.int .i64 a1_1) ∧ w'.cell? ⟨Z12, 2, none⟩ = some (.int .i64 a1_2) ∧ w'.cell? ⟨Z12, 3, none⟩ = some (.int .i64 a1_3) ∧ w'.cell? ⟨Z12, 4, none⟩ = some (.int .i64 a1_4) ∧ w'.cell? ⟨Z12, 5, none⟩ = some (.slice A1_5 l1_5.length c1_5)) (ds := []) #[false, false, false, false, false, false, false, false, false, false, false, false] (by kernel_rfl) rfl rfl ⟨(zO Z0.out 0).trans rfl, (zO Z0.out 1).trans rfl, (zO Z1.out 0).trans rfl, (zO Z1.out 1).trans rfl, (zO Z1.out 2).trans rfl, (zO Z1.out 3).trans rfl, (zO Z1.out 4).trans rfl, (zO Z1.out 5).trans rfl⟩ (fun hHeld => ?_); refine with_tabW w22_right.tab1 w22_right.bits1 (fun HT_ HW_ => ?_)
  generalize w6.drew = w7 at Z0 Z1 HB hHeld ⊢
  refine pure_ (i := 0) (N := some 8) (v := ?_) (a' := ?_) #[true, false, false, false, false, false, false, false, false, false, false, false] rfl rfl (any_of HT_.out (by kernel_rfl)) (fun _ _ _ h => h) (Or.inl ⟨by rfl, ?_⟩) ?_ ?_
  rotate_left
  ·intro w'
   go_simp
   with_reducible rfl
  rotate_left
  ·simp only [Act.put, zA, zB, zC, i64_w, i32_w]
   rfl
  refine pure_ (i := 2) (N := some 10) (v := ?_) (a' := ?_) #[true, false, true, false, false, false, false, false, false, false, false, false] rfl rfl (any_of HT_.out (by kernel_rfl)) (fun _ _ _ h => h) (Or.inl ⟨by rfl, ?_⟩) ?_ ?_
  rotate_left
  ·intro w'
   go_simp
   with_reducible rfl
  rotate_left
  ·simp only [Act.put, zA, zB, zC, i64_w, i32_w]
   rfl
  refine take_ (i := 1) (N := some 9) (v := ?_) (a' := ?_) #[true, true, true, false, false, false, false, false, false, false, false, false] rfl rfl (take_ofW HT_.out HW_.out (by kernel_rfl)) (fun _ _ _ h => h) (Or.inl ⟨by rfl, ?_⟩) hHeld ?_ ?_
  rotate_left
  ·rintro w' ⟨s0, s1, s2, s3, s4, s5, s6, s7⟩
   go_simp
   with_reducible rfl
  rotate_left
  ·simp only [Act.put, zA, zB, zC, i64_w, i32_w]
   rfl
  refine take_ (i := 3) (N := some 11) (v := ?_) (a' := ?_) #[true, true, true, true, false, false, false, false, false, false, false, false] rfl rfl (take_ofW HT_.out HW_.out (by kernel_rfl)) (fun _ _ _ h => h) (Or.inl ⟨by rfl, ?_⟩) hHeld ?_ ?_
  rotate_left
  ·rintro w' ⟨s0, s1, s2, s3, s4, s5, s6, s7⟩
   go_simp
   with_reducible rfl
  rotate_left
  ·simp only [Act.put, zA, zB, zC, i64_w, i32_w]
   rfl
  refine take_ (i := 4) (N := some 12) (v := ?_) (a' := ?_) #[true, true, true, true, true, false, false, false, false, false, false, false] rfl rfl (take_ofW HT_.out HW_.out (by kernel_rfl)) (fun _ _ _ h => h) (Or.inl ⟨by rfl, ?_⟩) hHeld ?_ ?_
  rotate_left
  ·rintro w' ⟨s0, s1, s2, s3, s4, s5, s6, s7⟩
   go_simp
   with_reducible rfl
  rotate_left
  ·simp only [Act.put, zA, zB, zC, i64_w, i32_w]
   rfl
  refine one_ (i := 5) (N := some 13) #[true, true, true, true, true, true, false, false, false, false, false, false] rfl rfl (one_of HT_.out (by kernel_rfl)) (by decide) (fun K hK => ?_)
  refine goes_ Try.func16 (by kernel_rfl) rfl #[.agg #[.int .i64 a1_0, .int .i64 a1_1, .int .i64 a1_2, .int .i64 a1_3, .int .i64 a1_4, .slice A1_5 l1_5.length c1_5]] (by rfl) rfl rfl (by (try simp only [yH, yI, yJ]); first | done | rfl | (simp only [yG, yF]; rfl)) ?_
  with_reducible refine (w22_plain.calls k a1_0 a1_1 a1_2 a1_3 a1_4 _ _ l1_5 t410 t411 t412 t413 t414 t415 _ ?side1 ?side2 A3.out).mono ?_
  (case side1 => repeat (first | exact (yc HR1_5.out HB.out) | (with_reducible refine yS ?_ _) | (with_reducible refine yT ?_ _) | (with_reducible refine yU ?_)))
  (case side2 => exact HC1_5.out)
  rintro e w8 ⟨v416, rfl, ho0, hb⟩
  refine ⟨_, rfl, ?_⟩
  have n0_ := zK (Kd.R_lower ho0 (yK (by repeat (first | (with_reducible first | exact HB.out | apply zJ | apply zD | apply zE | refine zI ?_ Z3.out | refine zI ?_ Z4.out) | exact HB.out))))
  have n1_ := zK (zP (g := Z11) (o := .cells #[.slice A0_0 l0_0.length c0_0, .slice A0_1 l0_1.length c0_1] 39 (0, 0)) (by (with_reducible repeat (first | refine zF ?_ _ | refine zH ?_ | refine zG ?_ _)); exact Z0.out) hb)
  have n2_ := zK (zP (g := Z12) (o := .cells #[.int .i64 a1_0, .int .i64 a1_1, .int .i64 a1_2, .int .i64 a1_3, .int .i64 a1_4, .slice A1_5 l1_5.length c1_5] 24 (0, 0)) (by (with_reducible repeat (first | refine zF ?_ _ | refine zH ?_ | refine zG ?_ _)); exact Z1.out) hb)
  have n3_ := zK (yL (by repeat (first | (with_reducible first | exact HB.out | apply zJ | apply zD | apply zE | refine zI ?_ Z3.out | refine zI ?_ Z4.out) | exact HB.out)) hb)
  clear Z0 Z1 HB
  have HO417 := n0_; have Z0 := n1_; have Z1 := n2_; have HB := n3_
  clear n0_ n1_ n2_ n3_
  (try clear hb)
  (try clear hb2)
  (try clear hk)
  (try clear hi)
  (try clear ho0)
  obtain ⟨Ao9, co9, eo9⟩ := Kd.R_slice HO417.out
  (first | subst eo9 | (injection eo9 with f1_ f2_ f3_; have f4_ := f1_.symm; have f5_ := f3_.symm; clear f1_ f2_ f3_; subst f4_; subst f5_))
  refine hK.out _ _ ⟨(zO Z0.out 0).trans rfl, (zO Z0.out 1).trans rfl, (zO Z1.out 0).trans rfl, (zO Z1.out 1).trans rfl, (zO Z1.out 2).trans rfl, (zO Z1.out 3).trans rfl, (zO Z1.out 4).trans rfl, (zO Z1.out 5).trans rfl⟩ (fun hHeld => ?_)
  clear hK K
  refine norm_ (a' := ?_) ?_ ?_
  rotate_left
  ·show Act.put _ (some 13) _ = _
   simp only [Act.put, zA, zB, zC, i64_w, i32_w]
   rfl
  refine one_ (i := 6) (N := some 14) #[true, true, true, true, true, true, true, false, false, false, false, false] rfl rfl (one_of HT_.out (by kernel_rfl)) (by decide) (fun K hK => ?_)
  refine goes_ Try.func20 (by kernel_rfl) rfl #[.slice A0_0 l0_0.length c0_0, .slice A0_1 l0_1.length c0_1, .agg #[.int .i64 t410, .int .i64 t411, .int .i64 t412, .int .i64 t413, .int .i64 t414, .slice Ao9 t415.length co9]] (by rfl) rfl rfl (by (try simp only [yH, yI, yJ]); first | done | rfl | (simp only [yG, yF]; rfl)) ?_
  with_reducible refine (r22_Weights.calls k _ _ l0_0 _ _ l0_1 t410 t411 t412 t413 t414 _ _ t415 t418 t421 _ ?side1 ?side2 ?side3 ?side4 ?side5 ?side6 A4.out).mono ?_
  (case side1 => repeat (first | exact (yc HR0_0.out HB.out) | (with_reducible refine yS ?_ _) | (with_reducible refine yT ?_ _) | (with_reducible refine yU ?_)))
  (case side2 => exact HC0_0.out)
  (case side3 => repeat (first | exact (yc HR0_1.out HB.out) | (with_reducible refine yS ?_ _) | (with_reducible refine yT ?_ _) | (with_reducible refine yU ?_)))
  (case side4 => exact HC0_1.out)
  (case side5 => repeat (first | exact (yM HO417.out).2.2 | (with_reducible refine yS ?_ _) | (with_reducible refine yT ?_ _) | (with_reducible refine yU ?_)))
  (case side6 => exact (yM HO417.out).2.1)
  rintro e w10 ⟨v419, rfl, ho0, hb⟩
  refine ⟨_, rfl, ?_⟩
  have n0_ := zK (yb (by (with_reducible repeat (first | apply zL | apply zM | apply zN)); exact HO417.out) hb)
  have n1_ := zK (Kd.R_lower ho0 (yK (by repeat (first | (with_reducible first | exact HB.out | apply zJ | apply zD | apply zE | refine zI ?_ Z3.out | refine zI ?_ Z4.out) | exact HB.out))))
  have n2_ := zK (zP (g := Z11) (o := .cells #[.slice A0_0 l0_0.length c0_0, .slice A0_1 l0_1.length c0_1] 39 (0, 0)) (by (with_reducible repeat (first | refine zF ?_ _ | refine zH ?_ | refine zG ?_ _)); exact Z0.out) hb)
  have n3_ := zK (zP (g := Z12) (o := .cells #[.int .i64 a1_0, .int .i64 a1_1, .int .i64 a1_2, .int .i64 a1_3, .int .i64 a1_4, .slice A1_5 l1_5.length c1_5] 24 (0, 0)) (by (with_reducible repeat (first | refine zF ?_ _ | refine zH ?_ | refine zG ?_ _)); exact Z1.out) hb)
  have n4_ := zK (yL (by repeat (first | (with_reducible first | exact HB.out | apply zJ | apply zD | apply zE | refine zI ?_ Z3.out | refine zI ?_ Z4.out) | exact HB.out)) hb)
  clear HO417 Z0 Z1 HB
  have HO417 := n0_; have HO420 := n1_; have Z0 := n2_; have Z1 := n3_; have HB := n4_
  clear n0_ n1_ n2_ n3_ n4_
  (try clear hb)
  (try clear hb2)
  (try clear hk)
  (try clear hi)
  (try clear ho0)
  refine hK.out _ _ ⟨(zO Z0.out 0).trans rfl, (zO Z0.out 1).trans rfl, (zO Z1.out 0).trans rfl, (zO Z1.out 1).trans rfl, (zO Z1.out 2).trans rfl, (zO Z1.out 3).trans rfl, (zO Z1.out 4).trans rfl, (zO Z1.out 5).trans rfl⟩ (fun hHeld => ?_)
  clear hK K
  refine norm_ (a' := ?_) ?_ ?_
  rotate_left
  ·show Act.put _ (some 14) _ = _
   simp only [Act.put, zA, zB, zC, i64_w, i32_w]
   rfl
  refine pure_ (i := 7) (N := some 7) (v := ?_) (a' := ?_) #[true, true, true, true, true, true, true, true, false, false, false, false] rfl rfl (any_of HT_.out (by kernel_rfl)) (fun _ _ _ h => h) (Or.inl ⟨by rfl, ?_⟩) ?_ ?_
  rotate_left
  ·intro w'
   go_simp
   with_reducible rfl
  rotate_left
  ·simp only [Act.put, zA, zB, zC, i64_w, i32_w]
   rfl
  refine pure_ (i := 8) (N := some 15) (v := ?_) (a' := ?_) #[true, true, true, true, true, true, true, true, true, false, false, false] rfl rfl (any_of HT_.out (by kernel_rfl)) (fun _ _ _ h => h) (Or.inl ⟨by rfl, ?_⟩) ?_ ?_
  rotate_left
  ·intro w'
   go_simp
   with_reducible rfl
  rotate_left
  ·simp only [Act.put, zA, zB, zC, i64_w, i32_w]
   rfl
  refine pure_ (i := 9) (N := some 16) (v := ?_) (a' := ?_) #[true, true, true, true, true, true, true, true, true, true, false, false] rfl rfl (any_of HT_.out (by kernel_rfl)) (fun _ _ _ h => h) (Or.inl ⟨by rfl, ?_⟩) ?_ ?_
  rotate_left
  ·intro w'
   go_simp
   with_reducible rfl
  rotate_left
  ·simp only [Act.put, zA, zB, zC, i64_w, i32_w]
   rfl
  refine pure_ (i := 10) (N := some 5) (v := ?_) (a' := ?_) #[true, true, true, true, true, true, true, true, true, true, true, false] rfl rfl (any_of HT_.out (by kernel_rfl)) (fun _ _ _ h => h) (Or.inl ⟨by rfl, ?_⟩) ?_ ?_
  rotate_left
  ·intro w'
   go_simp
   with_reducible rfl
  rotate_left
  ·simp only [Act.put, zA, zB, zC, i64_w, i32_w]
   rfl
  refine pure_ (i := 11) (N := some 6) (v := ?_) (a' := ?_) #[true, true, true, true, true, true, true, true, true, true, true, true] rfl rfl (any_of HT_.out (by kernel_rfl)) (fun _ _ _ h => h) (Or.inl ⟨by rfl, ?_⟩) ?_ ?_
  rotate_left
  ·intro w'
   go_simp
   with_reducible rfl
  rotate_left
  ·simp only [Act.put, zA, zB, zC, i64_w, i32_w]
   rfl
  refine done_ (done_of HT_.out (by kernel_rfl)) ?_
  try go_wp2
  go_ret
  exact ⟨by first | rfl | (simp [errW_none, errW_some] <;> rfl) | (simp [*, errW_none, errW_some] <;> rfl), by repeat (first | (with_reducible first | exact HB.out | apply zJ | apply zD | apply zE | refine zI ?_ Z3.out | refine zI ?_ Z4.out) | exact HB.out)⟩

/-! ### w22_Asked_may: function 23 -/
def w22_Asked_may.f (l0_0 : List Int) (l0_1 : List Bool) (a1 : Int) : Option (Bool) := if (l0_1.length : Int) = 0 then (some true) else (if 0 ≤ a1 then (if a1 < (l0_1.length : Int) then (some (rdOf false l0_1 a1)) else (none)) else (none))
set_option maxHeartbeats 8000000 in
set_option maxRecDepth 100000 in
theorem w22_Asked_may.calls (A0_0 : Option Addr) (c0_0 : Nat) (l0_0 : List Int) (A0_1 : Option Addr) (c0_1 : Nat) (l0_1 : List Bool) (a1 : Int) (r : Bool) (w : World) (hr0_0 : Kd.C (Kd.int .i64) w A0_0 l0_0.length l0_0) (hc0_0 : l0_0.length ≤ c0_0) (hr0_1 : Kd.C Kd.bool w A0_1 l0_1.length l0_1) (hc0_1 : l0_1.length ≤ c0_1) (h : w22_Asked_may.f l0_0 l0_1 a1 = some r) :
    Calls Try.prog 23 #[.agg #[.slice A0_0 l0_0.length c0_0, .slice A0_1 l0_1.length c0_1], .int .i64 a1] w fun e w' => e = .returned (.bool r) ∧ Below w.heap.size w w' := by
  have hu39 := Try.underlying39
  have HR0_0 := zK hr0_0
  have HC0_0 := zK hc0_0
  clear hr0_0 hc0_0
  have HR0_1 := zK hr0_1
  have HC0_1 := zK hc0_1
  clear hr0_1 hc0_1
  have HB := zK (Below.refl w.heap.size w)
  have H : (if (l0_1.length : Int) = 0 then (some true) else (if 0 ≤ a1 then (if a1 < (l0_1.length : Int) then (some (rdOf false l0_1 a1)) else (none)) else (none))) = some r := h
  clear h
  by_cases c3 : (l0_1.length : Int) = 0
  ·rw [if_pos c3] at H
   have c3b0 : ((l0_1.length : Int) == 0) = true := beq_iff_eq.mpr c3
   have c3b1 : ((l0_1.length : Int) != 0) = false := bne_eq_false_iff_eq.mpr c3
   clear c3
   obtain rfl := yY H
   go_enter Try.func23, Try.ntmps23
   go_wp2_with (first | ((with_reducible refine gate_dst (N := 2) rfl ?_); refine box_event ?hg (N := 2) ?hd (cs := #[.slice A0_0 l0_0.length c0_0, .slice A0_1 l0_1.length c0_1]) (t := 39) ?hr ?_; (case hd => rfl); (case hg => rfl); (case hr => first | (go_simp; done) | (go_simp; rfl)); intro Z13 hg w4 hbox hb; have n0_ := zK (yL (by repeat (first | (with_reducible first | exact HB.out | apply zJ | apply zD | apply zE) | exact HB.out)) hb); have n1_ := zK (hbox); have n2_ := zK ((by rw [hg]; exact (yK (by repeat (first | (with_reducible first | exact HB.out | apply zJ | apply zD | apply zE) | exact HB.out))) : w.heap.size ≤ Z13)); have n3_ := zK ((by rw [hg]; exact (yK (by repeat (first | (with_reducible first | exact HB.out | apply zJ | apply zD | apply zE) | exact HB.out))) : w.heap.size ≤ Z13)); clear HB; have HB := n0_; have Z2 := n1_; have Z8 := n2_; have Z5 := n3_; clear n0_ n1_ n2_ n3_ hb hbox hg; have hcz5_0 : w4.cell? ⟨Z13, 0, none⟩ = some (.slice A0_0 l0_0.length c0_0) := (zO Z2.out 0).trans rfl; have hcz5_1 : w4.cell? ⟨Z13, 1, none⟩ = some (.slice A0_1 l0_1.length c0_1) := (zO Z2.out 1).trans rfl; have hfz5_0 := yE Z2.out 0; have hfz5_1 := yE Z2.out 1))
   go_ret
   exact ⟨by first | rfl | (simp [errW_none, errW_some] <;> rfl) | (simp [*, errW_none, errW_some] <;> rfl), by repeat (first | (with_reducible first | exact HB.out | apply zJ | apply zD | apply zE | refine zI ?_ Z5.out) | exact HB.out)⟩
  ·rw [if_neg c3] at H
   have c3b0 : ((l0_1.length : Int) == 0) = false := beq_eq_false_iff_ne.mpr c3
   have c3b1 : ((l0_1.length : Int) != 0) = true := bne_iff_ne.mpr c3
   have c3b2 : ¬ (l0_1 = []) := fun h_ => c3 (by rw [h_]; rfl)
   by_cases c6 : 0 ≤ a1
   ·rw [if_pos c6] at H
    have c6b0 : decide (0 ≤ a1) = true := yC c6
    clear c6
    by_cases c7 : a1 < (l0_1.length : Int)
    ·rw [if_pos c7] at H
     have c7b0 : decide (a1 < (l0_1.length : Int)) = true := yC c7
     clear c7
     obtain rfl := yY H
     go_enter Try.func23, Try.ntmps23
     go_wp2_with (first | ((with_reducible refine gate_dst (N := 2) rfl ?_); refine box_event ?hg (N := 2) ?hd (cs := #[.slice A0_0 l0_0.length c0_0, .slice A0_1 l0_1.length c0_1]) (t := 39) ?hr ?_; (case hd => rfl); (case hg => rfl); (case hr => first | (go_simp; done) | (go_simp; rfl)); intro Z13 hg w8 hbox hb; have n0_ := zK (yL (by repeat (first | (with_reducible first | exact HB.out | apply zJ | apply zD | apply zE) | exact HB.out)) hb); have n1_ := zK (hbox); have n2_ := zK ((by rw [hg]; exact (yK (by repeat (first | (with_reducible first | exact HB.out | apply zJ | apply zD | apply zE) | exact HB.out))) : w.heap.size ≤ Z13)); have n3_ := zK ((by rw [hg]; exact (yK (by repeat (first | (with_reducible first | exact HB.out | apply zJ | apply zD | apply zE) | exact HB.out))) : w.heap.size ≤ Z13)); clear HB; have HB := n0_; have Z2 := n1_; have Z8 := n2_; have Z5 := n3_; clear n0_ n1_ n2_ n3_ hb hbox hg; have hcz9_0 : w8.cell? ⟨Z13, 0, none⟩ = some (.slice A0_0 l0_0.length c0_0) := (zO Z2.out 0).trans rfl; have hcz9_1 : w8.cell? ⟨Z13, 1, none⟩ = some (.slice A0_1 l0_1.length c0_1) := (zO Z2.out 1).trans rfl; have hfz9_0 := yE Z2.out 0; have hfz9_1 := yE Z2.out 1; have p423 : 0 ≤ (a1 : Int) := yB (by first | (with_reducible assumption) | assumption); have q423 : a1 < (l0_1.length : Int) := yB (by first | (with_reducible assumption) | assumption); obtain ⟨ad423, e423, hx423_0⟩ := Kd.at_bool HR0_1.out a1 p423 q423; cases e423; replace hx423_0 := (HB.out.cell (World.block_lt_of_cell? w _ hx423_0)).trans hx423_0; replace p423 := yg p423; replace q423 := yg q423))
     go_ret
     exact ⟨by first | rfl | (simp [errW_none, errW_some] <;> rfl) | (simp [*, errW_none, errW_some] <;> rfl), by repeat (first | (with_reducible first | exact HB.out | apply zJ | apply zD | apply zE | refine zI ?_ Z5.out) | exact HB.out)⟩
    ·rw [if_neg c7] at H
     exact absurd H (by simp)
   ·rw [if_neg c6] at H
    exact absurd H (by simp)

end Go.Proofs.Ythmckhfjaleomaa.T
