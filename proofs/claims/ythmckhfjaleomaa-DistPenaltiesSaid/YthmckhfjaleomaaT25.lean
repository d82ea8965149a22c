-- Printed by this session's own driver (wip/tools/xprint.py) over the kit's printer; given functions are this session's own.
import Derived.Test.YthmckhfjaleomaaT0
import Derived.Test.YthmckhfjaleomaaT24
namespace Go.Proofs.Ythmckhfjaleomaa.T
open Go.RowKit Go.Proofs.YthmckhfjaleomaaW.PrintWords Go.Proofs.YthmckhfjaleomaaW.PrintLast Go.Proofs.YthmckhfjaleomaaW.PrintMore
attribute [local go_sem] max2_int min2_int max_two min_two max_three min_three max_four min_four   -- for this text's walks alone
set_option linter.unusedVariables false
set_option linter.unusedSimpArgs false

/-! ### r22_Penalise: function 26 -/
mutual
def r22_Penalise.j0 : Nat → List Int → List Int → Bool → Int → Int → Int → Option (List Int × Int)
  | 0, _, _, _, _, _, _ => none
  | k + 1, x0, x1, x44, Y0, Y1, Y2 => if x44 = true then (some (([] : List Int), 220)) else (if (x1.length : Int) > 65536 then (some (([] : List Int), 1)) else (if 0 ≤ (x0.length : Int) then (if ((x0.length : Int) : Int).toNat ≤ 35184372088832 then (r22_Penalise.l0 k x0 x1 (List.replicate ((x0.length : Int) : Int).toNat 0) x1 (x1.length : Int) 0 Y0 Y1 Y2) else (none)) else (none)))
def r22_Penalise.l0 : Nat → List Int → List Int → List Int → List Int → Int → Int → Int → Int → Int → Option (List Int × Int)
  | 0, _, _, _, _, _, _, _, _, _ => none
  | k + 1, x0, x1, x8, x51, x52, x53, Y0, Y1, Y2 => if x53 < x52 then (if 0 ≤ x53 then (if x53 < (x51.length : Int) then (if (rd x51 x53) < 0 then (r22_Penalise.j2 k x0 x1 x8 x53 (rd x51 x53) x51 x52 x53 true Y0 Y1 Y2) else (r22_Penalise.j2 k x0 x1 x8 x53 (rd x51 x53) x51 x52 x53 (decide ((rd x51 x53) ≥ (x0.length : Int))) Y0 Y1 Y2)) else (none)) else (none)) else (r22_Penalise.l1 k x8 (([] : List Int)) x0 (x0.length : Int) 0 Y0 Y1 Y2)
def r22_Penalise.j2 : Nat → List Int → List Int → List Int → Int → Int → List Int → Int → Int → Bool → Int → Int → Int → Option (List Int × Int)
  | 0, _, _, _, _, _, _, _, _, _, _, _, _ => none
  | k + 1, x0, x1, x8, x9, x10, x51, x52, x53, x65, Y0, Y1, Y2 => if x65 = true then (some (([] : List Int), 1)) else (if Y0 = 0 then (if 0 ≤ x10 then (if x10 < (x8.length : Int) then (r22_Penalise.l0 k x0 x1 (x8.set (x10 : Int).toNat (wrap64 ((rd x8 x10) + 1))) x51 x52 (wrap64 (x53 + 1)) Y0 Y1 Y2) else (none)) else (none)) else (if x9 ≥ (wrap64 ((x1.length : Int) - Y0)) then (if 0 ≤ x10 then (if x10 < (x8.length : Int) then (r22_Penalise.l0 k x0 x1 (x8.set (x10 : Int).toNat (wrap64 ((rd x8 x10) + 1))) x51 x52 (wrap64 (x53 + 1)) Y0 Y1 Y2) else (none)) else (none)) else (r22_Penalise.l0 k x0 x1 x8 x51 x52 (wrap64 (x53 + 1)) Y0 Y1 Y2)))
def r22_Penalise.l1 : Nat → List Int → List Int → List Int → Int → Int → Int → Int → Int → Option (List Int × Int)
  | 0, _, _, _, _, _, _, _, _ => none
  | k + 1, x8, x11, x86, x87, x88, Y0, Y1, Y2 => if x88 < x87 then (if 0 ≤ x88 then (if x88 < (x86.length : Int) then (if x88 < (x8.length : Int) then (if (rd x8 x88) > 0 then ((r02_Clamp.f (wrap64 ((rd x86 x88) - (wrap64 (Y1 + (wrap64 ((rd x8 x88) * Y2)))))) (-1073741824) 1073741824).bind fun t573 => (if x11.length < 17592186044416 then (r22_Penalise.l1 k x8 (x11 ++ [t573]) x86 x87 (wrap64 (x88 + 1)) Y0 Y1 Y2) else (none))) else ((r02_Clamp.f (rd x86 x88) (-1073741824) 1073741824).bind fun t577 => (if x11.length < 17592186044416 then (r22_Penalise.l1 k x8 (x11 ++ [t577]) x86 x87 (wrap64 (x88 + 1)) Y0 Y1 Y2) else (none)))) else (none)) else (none)) else (none)) else (some (x11, 0))
end
def r22_Penalise.f (k : Nat) (l0 : List Int) (l1 : List Int) (a2_0 : Int) (a2_1 : Int) (a2_2 : Int) : Option (List Int × Int) := (r22_all.f k l0).bind fun t558 => (if t558 = true then (if a2_0 < 0 then (r22_Penalise.j0 k l0 l1 true a2_0 a2_1 a2_2) else (if a2_0 > 65536 then (r22_Penalise.j0 k l0 l1 true a2_0 a2_1 a2_2) else (if a2_1 < (-1048576) then (r22_Penalise.j0 k l0 l1 true a2_0 a2_1 a2_2) else (if a2_1 > 1048576 then (r22_Penalise.j0 k l0 l1 true a2_0 a2_1 a2_2) else (if a2_2 < (-1048576) then (r22_Penalise.j0 k l0 l1 true a2_0 a2_1 a2_2) else (r22_Penalise.j0 k l0 l1 (decide (a2_2 > 1048576)) a2_0 a2_1 a2_2)))))) else (some (([] : List Int), 221)))
theorem r22_Penalise.mono_l : ∀ k, (∀ y0 y1 y2 y3 y4 y5, LeO (r22_Penalise.j0 k y0 y1 y2 y3 y4 y5) (r22_Penalise.j0 (k + 1) y0 y1 y2 y3 y4 y5)) ∧ (∀ y0 y1 y2 y3 y4 y5 y6 y7 y8, LeO (r22_Penalise.l0 k y0 y1 y2 y3 y4 y5 y6 y7 y8) (r22_Penalise.l0 (k + 1) y0 y1 y2 y3 y4 y5 y6 y7 y8)) ∧ (∀ y0 y1 y2 y3 y4 y5 y6 y7 y8 y9 y10 y11, LeO (r22_Penalise.j2 k y0 y1 y2 y3 y4 y5 y6 y7 y8 y9 y10 y11) (r22_Penalise.j2 (k + 1) y0 y1 y2 y3 y4 y5 y6 y7 y8 y9 y10 y11)) ∧ (∀ y0 y1 y2 y3 y4 y5 y6 y7, LeO (r22_Penalise.l1 k y0 y1 y2 y3 y4 y5 y6 y7) (r22_Penalise.l1 (k + 1) y0 y1 y2 y3 y4 y5 y6 y7))
  | 0 => ⟨fun _ _ _ _ _ _ r h => by simp [r22_Penalise.j0] at h, fun _ _ _ _ _ _ _ _ _ r h => by simp [r22_Penalise.l0] at h, fun _ _ _ _ _ _ _ _ _ _ _ _ r h => by simp [r22_Penalise.j2] at h, fun _ _ _ _ _ _ _ _ r h => by simp [r22_Penalise.l1] at h⟩
  | k + 1 => by
    obtain ⟨ih0, ih1, ih2, ih3⟩ := r22_Penalise.mono_l k
    refine ⟨?_, ?_, ?_, ?_⟩ <;> (intros; first | unfold r22_Penalise.j0 | unfold r22_Penalise.l0 | unfold r22_Penalise.j2 | unfold r22_Penalise.l1)
    all_goals repeat' first
      | (with_reducible exact ih0 _ _ _ _ _ _)
      | (with_reducible exact ih1 _ _ _ _ _ _ _ _ _)
      | (with_reducible exact ih2 _ _ _ _ _ _ _ _ _ _ _ _)
      | (with_reducible exact ih3 _ _ _ _ _ _ _ _)
      | (with_reducible exact r22_all.mono _ _)
      | (with_reducible exact yR _)
      | (with_reducible exact yO _)
      | (with_reducible refine yQ ?_ ?_)
      | (with_reducible refine yP ?_ (fun _ => ?_))
      | exact ih0 _ _ _ _ _ _
      | exact ih1 _ _ _ _ _ _ _ _ _
      | exact ih2 _ _ _ _ _ _ _ _ _ _ _ _
      | exact ih3 _ _ _ _ _ _ _ _
      | exact r22_all.mono _ _
      | exact yO _
      | refine yQ ?_ ?_
      | refine yP ?_ (fun _ => ?_)
theorem r22_Penalise.mono : ∀ a0 a1 a2 a3 a4 k, LeO (r22_Penalise.f k a0 a1 a2 a3 a4) (r22_Penalise.f (k + 1) a0 a1 a2 a3 a4) := by
  intro a0 a1 a2 a3 a4 k
  obtain ⟨ih0, ih1, ih2, ih3⟩ := r22_Penalise.mono_l k
  unfold r22_Penalise.f
  repeat' first
      | (with_reducible exact ih0 _ _ _ _ _ _)
      | (with_reducible exact ih1 _ _ _ _ _ _ _ _ _)
      | (with_reducible exact ih2 _ _ _ _ _ _ _ _ _ _ _ _)
      | (with_reducible exact ih3 _ _ _ _ _ _ _ _)
      | (with_reducible exact r22_all.mono _ _)
      | (with_reducible exact yR _)
      | (with_reducible exact yO _)
      | (with_reducible refine yQ ?_ ?_)
      | (with_reducible refine yP ?_ (fun _ => ?_))
      | exact ih0 _ _ _ _ _ _
      | exact ih1 _ _ _ _ _ _ _ _ _
      | exact ih2 _ _ _ _ _ _ _ _ _ _ _ _
      | exact ih3 _ _ _ _ _ _ _ _
      | exact r22_all.mono _ _
      | exact yO _
      | refine yQ ?_ ?_
      | refine yP ?_ (fun _ => ?_)
set_option maxHeartbeats 8000000 in
set_option maxRecDepth 100000 in
theorem r22_Penalise.calls (k : Nat) (A0 : Option Addr) (c0 : Nat) (l0 : List Int) (A1 : Option Addr) (c1 : Nat) (l1 : List Int) (a2_0 : Int) (a2_1 : Int) (a2_2 : Int) (r1 : List Int) (r2 : Int) (w : World) (hr0 : Kd.C (Kd.int .i64) w A0 l0.length l0) (hc0 : l0.length ≤ c0) (hr1 : Kd.C (Kd.int .i64) w A1 l1.length l1) (hc1 : l1.length ≤ c1) (h : r22_Penalise.f k l0 l1 a2_0 a2_1 a2_2 = some (r1, r2)) :
    Calls Try.prog 26 #[.slice A0 l0.length c0, .slice A1 l1.length c1, .agg #[.int .i64 a2_0, .int .i64 a2_1, .int .i64 a2_2]] w fun e w' => ∃ v0_ : Value, e = .returned (.tuple #[v0_, .int .i64 r2]) ∧ Kd.R (Kd.int .i64) 2 w' w.heap.size (fun _ => True) v0_ r1 ∧ Below w.heap.size w w' := by
  have hu56 := Try.underlying56
  have HR0 := zK hr0
  have HC0 := zK hc0
  clear hr0 hc0
  have HR1 := zK hr1
  have HC1 := zK hc1
  clear hr1 hc1
  have HB := zK (Below.refl w.heap.size w)
  have H : ((r22_all.f k l0).bind fun t558 => (if t558 = true then (if a2_0 < 0 then (r22_Penalise.j0 k l0 l1 true a2_0 a2_1 a2_2) else (if a2_0 > 65536 then (r22_Penalise.j0 k l0 l1 true a2_0 a2_1 a2_2) else (if a2_1 < (-1048576) then (r22_Penalise.j0 k l0 l1 true a2_0 a2_1 a2_2) else (if a2_1 > 1048576 then (r22_Penalise.j0 k l0 l1 true a2_0 a2_1 a2_2) else (if a2_2 < (-1048576) then (r22_Penalise.j0 k l0 l1 true a2_0 a2_1 a2_2) else (r22_Penalise.j0 k l0 l1 (decide (a2_2 > 1048576)) a2_0 a2_1 a2_2)))))) else (some (([] : List Int), 221)))) = some (r1, r2) := h
  clear h
  replace H := yA.mp H
  obtain ⟨t558, A40, H⟩ := H
  replace H : (if t558 = true then (if a2_0 < 0 then (r22_Penalise.j0 k l0 l1 true a2_0 a2_1 a2_2) else (if a2_0 > 65536 then (r22_Penalise.j0 k l0 l1 true a2_0 a2_1 a2_2) else (if a2_1 < (-1048576) then (r22_Penalise.j0 k l0 l1 true a2_0 a2_1 a2_2) else (if a2_1 > 1048576 then (r22_Penalise.j0 k l0 l1 true a2_0 a2_1 a2_2) else (if a2_2 < (-1048576) then (r22_Penalise.j0 k l0 l1 true a2_0 a2_1 a2_2) else (r22_Penalise.j0 k l0 l1 (decide (a2_2 > 1048576)) a2_0 a2_1 a2_2)))))) else (some (([] : List Int), 221))) = some (r1, r2) := H
  have A4 := zK A40
  clear A40
  by_cases c5 : t558 = true
  ·subst c5
   have H1 : (if a2_0 < 0 then (r22_Penalise.j0 k l0 l1 true a2_0 a2_1 a2_2) else (if a2_0 > 65536 then (r22_Penalise.j0 k l0 l1 true a2_0 a2_1 a2_2) else (if a2_1 < (-1048576) then (r22_Penalise.j0 k l0 l1 true a2_0 a2_1 a2_2) else (if a2_1 > 1048576 then (r22_Penalise.j0 k l0 l1 true a2_0 a2_1 a2_2) else (if a2_2 < (-1048576) then (r22_Penalise.j0 k l0 l1 true a2_0 a2_1 a2_2) else (r22_Penalise.j0 k l0 l1 (decide (a2_2 > 1048576)) a2_0 a2_1 a2_2)))))) = some (r1, r2) := by rw [if_pos rfl] at H; exact H
   clear H
   have H := H1
   clear H1
   have HC6 := zK H
   clear H
   go_enter Try.func26, Try.ntmps26
   go_upto_region 3 with (first | ((with_reducible refine gate_dst (N := 5) rfl ?_); refine box_event ?hg (N := 5) ?hd (cs := #[.int .i64 a2_0, .int .i64 a2_1, .int .i64 a2_2]) (t := 56) ?hr ?_; (case hd => rfl); (case hg => rfl); (case hr => first | (go_simp; done) | (go_simp; rfl)); intro Z5 hg w7 hbox hb; have n0_ := zK (yL (by repeat (first | (with_reducible first | exact HB.out | apply zJ | apply zD | apply zE) | exact HB.out)) hb); have n1_ := zK (hbox); have n2_ := zK ((by rw [hg]; exact (yK (by repeat (first | (with_reducible first | exact HB.out | apply zJ | apply zD | apply zE) | exact HB.out))) : w.heap.size ≤ Z5)); have n3_ := zK ((by rw [hg]; exact (yK (by repeat (first | (with_reducible first | exact HB.out | apply zJ | apply zD | apply zE) | exact HB.out))) : w.heap.size ≤ Z5)); clear HB; have HB := n0_; have Z0 := n1_; have Z2 := n2_; have Z1 := n3_; clear n0_ n1_ n2_ n3_ hb hbox hg) | (go_at_call 60; (with_reducible refine (r22_all.calls k _ _ l0 true _ ?side1 ?side2 A4.out).mono ?_); (case side1 => repeat (first | exact (yc HR0.out HB.out) | (with_reducible refine yS ?_ _) | (with_reducible refine yT ?_ _) | (with_reducible refine yU ?_))); (case side2 => exact HC0.out); rintro e w' ⟨rfl, ⟨nd, rfl⟩⟩; (try first | exact ⟨rfl, _, World.drewN_drewN _ _ _⟩ | exact ⟨rfl, _, Eq.trans (World.drewN_drewN _ _ _) (congrArg (World.drewN _) (Nat.add_assoc _ _ _))⟩)))
   repeat (go_quiet (first | ((with_reducible refine gate_dst (N := 5) rfl ?_); refine box_event ?hg (N := 5) ?hd (cs := #[.int .i64 a2_0, .int .i64 a2_1, .int .i64 a2_2]) (t := 56) ?hr ?_; (case hd => rfl); (case hg => rfl); (case hr => first | (go_simp; done) | (go_simp; rfl)); intro Z5 hg w7 hbox hb; have n0_ := zK (yL (by repeat (first | (with_reducible first | exact HB.out | apply zJ | apply zD | apply zE) | exact HB.out)) hb); have n1_ := zK (hbox); have n2_ := zK ((by rw [hg]; exact (yK (by repeat (first | (with_reducible first | exact HB.out | apply zJ | apply zD | apply zE) | exact HB.out))) : w.heap.size ≤ Z5)); have n3_ := zK ((by rw [hg]; exact (yK (by repeat (first | (with_reducible first | exact HB.out | apply zJ | apply zD | apply zE) | exact HB.out))) : w.heap.size ≤ Z5)); clear HB; have HB := n0_; have Z0 := n1_; have Z2 := n2_; have Z1 := n3_; clear n0_ n1_ n2_ n3_ hb hbox hg) | (go_at_call 60; (with_reducible refine (r22_all.calls k _ _ l0 true _ ?side1 ?side2 A4.out).mono ?_); (case side1 => repeat (first | exact (yc HR0.out HB.out) | (with_reducible refine yS ?_ _) | (with_reducible refine yT ?_ _) | (with_reducible refine yU ?_))); (case side2 => exact HC0.out); rintro e w' ⟨rfl, ⟨nd, rfl⟩⟩; (try first | exact ⟨rfl, _, World.drewN_drewN _ _ _⟩ | exact ⟨rfl, _, Eq.trans (World.drewN_drewN _ _ _) (congrArg (World.drewN _) (Nat.add_assoc _ _ _))⟩))); go_upto_region 3 with (first | ((with_reducible refine gate_dst (N := 5) rfl ?_); refine box_event ?hg (N := 5) ?hd (cs := #[.int .i64 a2_0, .int .i64 a2_1, .int .i64 a2_2]) (t := 56) ?hr ?_; (case hd => rfl); (case hg => rfl); (case hr => first | (go_simp; done) | (go_simp; rfl)); intro Z5 hg w7 hbox hb; have n0_ := zK (yL (by repeat (first | (with_reducible first | exact HB.out | apply zJ | apply zD | apply zE) | exact HB.out)) hb); have n1_ := zK (hbox); have n2_ := zK ((by rw [hg]; exact (yK (by repeat (first | (with_reducible first | exact HB.out | apply zJ | apply zD | apply zE) | exact HB.out))) : w.heap.size ≤ Z5)); have n3_ := zK ((by rw [hg]; exact (yK (by repeat (first | (with_reducible first | exact HB.out | apply zJ | apply zD | apply zE) | exact HB.out))) : w.heap.size ≤ Z5)); clear HB; have HB := n0_; have Z0 := n1_; have Z2 := n2_; have Z1 := n3_; clear n0_ n1_ n2_ n3_ hb hbox hg) | (go_at_call 60; (with_reducible refine (r22_all.calls k _ _ l0 true _ ?side1 ?side2 A4.out).mono ?_); (case side1 => repeat (first | exact (yc HR0.out HB.out) | (with_reducible refine yS ?_ _) | (with_reducible refine yT ?_ _) | (with_reducible refine yU ?_))); (case side2 => exact HC0.out); rintro e w' ⟨rfl, ⟨nd, rfl⟩⟩; (try first | exact ⟨rfl, _, World.drewN_drewN _ _ _⟩ | exact ⟨rfl, _, Eq.trans (World.drewN_drewN _ _ _) (congrArg (World.drewN _) (Nat.add_assoc _ _ _))⟩))))
   (try simp only [Act.put, zA, zB, zC])
   go_cut [44] (fun v44 wc => ∃ (kq : Nat) (x44_5 : Bool), v44 = .bool x44_5 ∧ Aside0 (r22_Penalise.j0 kq l0 l1 x44_5 a2_0 a2_1 a2_2 = some (r1, r2)) ∧ Aside0 (kq ≤ k) ∧ Aside0 (wc.heap[Z5]? = some (.cells #[.int .i64 a2_0, .int .i64 a2_1, .int .i64 a2_2] 56 (0, 0))) ∧ Aside0 (Below w.heap.size w wc))
   case first =>
    have H := HC6.out
    clear HC6
    by_cases c8 : a2_0 < 0
    ·rw [if_pos c8] at H
     have c8b0 : decide (a2_0 < 0) = true := yC c8
     clear c8
     (first | rw [c8b0] | (simp only [i64_w, i32_w]; rw [c8b0]) | skip)
     have H' := zK H
     clear H
     have hcz9_0 : w7.cell? ⟨Z5, 0, none⟩ = some (.int .i64 a2_0) := (zO Z0.out 0).trans rfl
     have hcz9_1 : w7.cell? ⟨Z5, 1, none⟩ = some (.int .i64 a2_1) := (zO Z0.out 1).trans rfl
     have hcz9_2 : w7.cell? ⟨Z5, 2, none⟩ = some (.int .i64 a2_2) := (zO Z0.out 2).trans rfl
     have hfz9_0 := yE Z0.out 0
     have hfz9_1 := yE Z0.out 1
     have hfz9_2 := yE Z0.out 2
     go_wp2
     repeat (go_quiet (fail); try go_wp2)
     go_meet
     case rel => exact ⟨_, (true), (by first | rfl | (simp; done) | (simp [*]; done)), H', ⟨by first | omega | exact yN _⟩, ⟨by (with_reducible repeat (first | refine zF ?_ _ | refine zH ?_ | refine zG ?_ _)); exact Z0.out⟩, ⟨by repeat (first | (with_reducible first | exact HB.out | apply zJ | apply zD | apply zE | refine zI ?_ Z1.out) | exact HB.out)⟩⟩
    ·rw [if_neg c8] at H
     have c8b0 : decide (a2_0 < 0) = false := yD c8
     clear c8
     (first | rw [c8b0] | (simp only [i64_w, i32_w]; rw [c8b0]) | skip)
     by_cases c10 : a2_0 > 65536
     ·rw [if_pos c10] at H
      have c10b0 : decide (65536 < a2_0) = true := yC c10
      clear c10
      have H' := zK H
      clear H
      have hcz11_0 : w7.cell? ⟨Z5, 0, none⟩ = some (.int .i64 a2_0) := (zO Z0.out 0).trans rfl
      have hcz11_1 : w7.cell? ⟨Z5, 1, none⟩ = some (.int .i64 a2_1) := (zO Z0.out 1).trans rfl
      have hcz11_2 : w7.cell? ⟨Z5, 2, none⟩ = some (.int .i64 a2_2) := (zO Z0.out 2).trans rfl
      have hfz11_0 := yE Z0.out 0
      have hfz11_1 := yE Z0.out 1
      have hfz11_2 := yE Z0.out 2
      go_wp2
      repeat (go_quiet (fail); try go_wp2)
      go_meet
      case rel => exact ⟨_, (true), (by first | rfl | (simp; done) | (simp [*]; done)), H', ⟨by first | omega | exact yN _⟩, ⟨by (with_reducible repeat (first | refine zF ?_ _ | refine zH ?_ | refine zG ?_ _)); exact Z0.out⟩, ⟨by repeat (first | (with_reducible first | exact HB.out | apply zJ | apply zD | apply zE | refine zI ?_ Z1.out) | exact HB.out)⟩⟩
     ·rw [if_neg c10] at H
      have c10b0 : decide (65536 < a2_0) = false := yD c10
      clear c10
      by_cases c12 : a2_1 < (-1048576)
      ·rw [if_pos c12] at H
       have c12b0 : decide (a2_1 < (-1048576)) = true := yC c12
       clear c12
       have H' := zK H
       clear H
       have hcz13_0 : w7.cell? ⟨Z5, 0, none⟩ = some (.int .i64 a2_0) := (zO Z0.out 0).trans rfl
       have hcz13_1 : w7.cell? ⟨Z5, 1, none⟩ = some (.int .i64 a2_1) := (zO Z0.out 1).trans rfl
       have hcz13_2 : w7.cell? ⟨Z5, 2, none⟩ = some (.int .i64 a2_2) := (zO Z0.out 2).trans rfl
       have hfz13_0 := yE Z0.out 0
       have hfz13_1 := yE Z0.out 1
       have hfz13_2 := yE Z0.out 2
       go_wp2
       repeat (go_quiet (fail); try go_wp2)
       go_meet
       case rel => exact ⟨_, (true), (by first | rfl | (simp; done) | (simp [*]; done)), H', ⟨by first | omega | exact yN _⟩, ⟨by (with_reducible repeat (first | refine zF ?_ _ | refine zH ?_ | refine zG ?_ _)); exact Z0.out⟩, ⟨by repeat (first | (with_reducible first | exact HB.out | apply zJ | apply zD | apply zE | refine zI ?_ Z1.out) | exact HB.out)⟩⟩
      ·rw [if_neg c12] at H
       have c12b0 : decide (a2_1 < (-1048576)) = false := yD c12
       clear c12
       by_cases c14 : a2_1 > 1048576
       ·rw [if_pos c14] at H
        have c14b0 : decide (1048576 < a2_1) = true := yC c14
        clear c14
        have H' := zK H
        clear H
        have hcz15_0 : w7.cell? ⟨Z5, 0, none⟩ = some (.int .i64 a2_0) := (zO Z0.out 0).trans rfl
        have hcz15_1 : w7.cell? ⟨Z5, 1, none⟩ = some (.int .i64 a2_1) := (zO Z0.out 1).trans rfl
        have hcz15_2 : w7.cell? ⟨Z5, 2, none⟩ = some (.int .i64 a2_2) := (zO Z0.out 2).trans rfl
        have hfz15_0 := yE Z0.out 0
        have hfz15_1 := yE Z0.out 1
        have hfz15_2 := yE Z0.out 2
        go_wp2
        repeat (go_quiet (fail); try go_wp2)
        go_meet
        case rel => exact ⟨_, (true), (by first | rfl | (simp; done) | (simp [*]; done)), H', ⟨by first | omega | exact yN _⟩, ⟨by (with_reducible repeat (first | refine zF ?_ _ | refine zH ?_ | refine zG ?_ _)); exact Z0.out⟩, ⟨by repeat (first | (with_reducible first | exact HB.out | apply zJ | apply zD | apply zE | refine zI ?_ Z1.out) | exact HB.out)⟩⟩
       ·rw [if_neg c14] at H
        have c14b0 : decide (1048576 < a2_1) = false := yD c14
        clear c14
        by_cases c16 : a2_2 < (-1048576)
        ·rw [if_pos c16] at H
         have c16b0 : decide (a2_2 < (-1048576)) = true := yC c16
         clear c16
         have H' := zK H
         clear H
         have hcz17_0 : w7.cell? ⟨Z5, 0, none⟩ = some (.int .i64 a2_0) := (zO Z0.out 0).trans rfl
         have hcz17_1 : w7.cell? ⟨Z5, 1, none⟩ = some (.int .i64 a2_1) := (zO Z0.out 1).trans rfl
         have hcz17_2 : w7.cell? ⟨Z5, 2, none⟩ = some (.int .i64 a2_2) := (zO Z0.out 2).trans rfl
         have hfz17_0 := yE Z0.out 0
         have hfz17_1 := yE Z0.out 1
         have hfz17_2 := yE Z0.out 2
         go_wp2
         repeat (go_quiet (fail); try go_wp2)
         go_meet
         case rel => exact ⟨_, (true), (by first | rfl | (simp; done) | (simp [*]; done)), H', ⟨by first | omega | exact yN _⟩, ⟨by (with_reducible repeat (first | refine zF ?_ _ | refine zH ?_ | refine zG ?_ _)); exact Z0.out⟩, ⟨by repeat (first | (with_reducible first | exact HB.out | apply zJ | apply zD | apply zE | refine zI ?_ Z1.out) | exact HB.out)⟩⟩
        ·rw [if_neg c16] at H
         have c16b0 : decide (a2_2 < (-1048576)) = false := yD c16
         clear c16
         have H' := zK H
         clear H
         have hcz18_0 : w7.cell? ⟨Z5, 0, none⟩ = some (.int .i64 a2_0) := (zO Z0.out 0).trans rfl
         have hcz18_1 : w7.cell? ⟨Z5, 1, none⟩ = some (.int .i64 a2_1) := (zO Z0.out 1).trans rfl
         have hcz18_2 : w7.cell? ⟨Z5, 2, none⟩ = some (.int .i64 a2_2) := (zO Z0.out 2).trans rfl
         have hfz18_0 := yE Z0.out 0
         have hfz18_1 := yE Z0.out 1
         have hfz18_2 := yE Z0.out 2
         go_wp2
         repeat (go_quiet (fail); try go_wp2)
         go_meet
         case rel => exact ⟨_, (decide (a2_2 > 1048576)), (by first | rfl | (simp; done) | (simp [*]; done)), H', ⟨by first | omega | exact yN _⟩, ⟨by (with_reducible repeat (first | refine zF ?_ _ | refine zH ?_ | refine zG ?_ _)); exact Z0.out⟩, ⟨by repeat (first | (with_reducible first | exact HB.out | apply zJ | apply zD | apply zE | refine zI ?_ Z1.out) | exact HB.out)⟩⟩
   case rest =>
    clear HC6
    try clear c1
    try clear c2
    try clear p2
    try clear c5
    try clear c8
    try clear c8b0
    try clear c10
    try clear c10b0
    try clear c12
    try clear c12b0
    try clear c14
    try clear c14b0
    try clear c16
    try clear c16b0
    try clear hcz11_0
    try clear hcz11_1
    try clear hcz11_2
    try clear hcz13_0
    try clear hcz13_1
    try clear hcz13_2
    try clear hcz15_0
    try clear hcz15_1
    try clear hcz15_2
    try clear hcz17_0
    try clear hcz17_1
    try clear hcz17_2
    try clear hcz18_0
    try clear hcz18_1
    try clear hcz18_2
    try clear hcz9_0
    try clear hcz9_1
    try clear hcz9_2
    try clear hfz11_0
    try clear hfz11_1
    try clear hfz11_2
    try clear hfz13_0
    try clear hfz13_1
    try clear hfz13_2
    try clear hfz15_0
    try clear hfz15_1
    try clear hfz15_2
    try clear hfz17_0
    try clear hfz17_1
    try clear hfz17_2
    try clear hfz18_0
    try clear hfz18_1
    try clear hfz18_2
    try clear hfz9_0
    try clear hfz9_1
    try clear hfz9_2
    obtain ⟨kq, x44_5, rfl, HA, HJ5, Z0, HB⟩ := hcut
    cases kq with
    | zero => exact absurd HA.out (by simp [r22_Penalise.j0])
    | succ kj5 =>
     have H := HA.out
     clear HA
     simp only [r22_Penalise.j0] at H
     by_cases c19 : x44_5 = true
     ·subst c19
      have H1 : (some (([] : List Int), 220)) = some (r1, r2) := by rw [if_pos rfl] at H; exact H
      clear H
      have H := H1
      clear H1
      simp only [yZ, ya] at H
      obtain ⟨rfl, rfl⟩ := H
      go_wp2
      repeat (go_quiet (fail); try go_wp2)
      go_ret2
      exact ⟨_, by first | rfl | (simp [errW_none, errW_some] <;> rfl) | (simp [*, errW_none, errW_some] <;> rfl), by first | exact Kd.R_nil _ _ _ _ _ | exact Kd.N_nil _ _ _ _ _ | exact Kd.V_nil _ _ _ _ _ | exact Kd.Q_nil _ _ _ _ _ | exact Kd.S_nil _ _ _ _ _, by repeat (first | (with_reducible first | exact HB.out | apply zJ | apply zD | apply zE | refine zI ?_ Z1.out) | exact HB.out)⟩
     ·replace c19 := yh.mpr c19
      subst c19
      have H1 : (if (l1.length : Int) > 65536 then (some (([] : List Int), 1)) else (if 0 ≤ (l0.length : Int) then (if ((l0.length : Int) : Int).toNat ≤ 35184372088832 then (r22_Penalise.l0 kj5 l0 l1 (List.replicate ((l0.length : Int) : Int).toNat 0) l1 (l1.length : Int) 0 a2_0 a2_1 a2_2) else (none)) else (none))) = some (r1, r2) := by rw [if_neg (show ¬ (false = true) by decide)] at H; exact H
      clear H
      have H := H1
      clear H1
      by_cases c20 : (l1.length : Int) > 65536
      ·rw [if_pos c20] at H
       have c20b0 : decide (65536 < (l1.length : Int)) = true := yC c20
       have c20b1 : decide (65536 < l1.length) = true := yC (by omega)
       clear c20
       simp only [yZ, ya] at H
       obtain ⟨rfl, rfl⟩ := H
       go_wp2
       repeat (go_quiet (fail); try go_wp2)
       go_ret2
       exact ⟨_, by first | rfl | (simp [errW_none, errW_some] <;> rfl) | (simp [*, errW_none, errW_some] <;> rfl), by first | exact Kd.R_nil _ _ _ _ _ | exact Kd.N_nil _ _ _ _ _ | exact Kd.V_nil _ _ _ _ _ | exact Kd.Q_nil _ _ _ _ _ | exact Kd.S_nil _ _ _ _ _, by repeat (first | (with_reducible first | exact HB.out | apply zJ | apply zD | apply zE | refine zI ?_ Z1.out) | exact HB.out)⟩
      ·rw [if_neg c20] at H
       have c20b0 : decide (65536 < (l1.length : Int)) = false := yD c20
       have c20b1 : decide (65536 < l1.length) = false := yD (by omega)
       clear c20
       by_cases c21 : 0 ≤ (l0.length : Int)
       ·rw [if_pos c21] at H
        have c21b0 := yg c21
        have c21b1 : decide (0 ≤ (l0.length : Int)) = true := yC c21
        clear c21
        by_cases c22 : ((l0.length : Int) : Int).toNat ≤ 35184372088832
        ·rw [if_pos c22] at H
         have c22b0 := yg c22
         have c22b1 : decide (((l0.length : Int) : Int).toNat ≤ 35184372088832) = true := yC c22
         clear c22
         obtain ⟨y559, hy559⟩ : ∃ y_ : List Int, y_ = (List.replicate ((l0.length : Int) : Int).toNat 0) := ⟨_, rfl⟩
         replace H : (r22_Penalise.l0 kj5 l0 l1 y559 l1 (l1.length : Int) 0 a2_0 a2_1 a2_2) = some (r1, r2) := by first | (rw [hy559]; with_reducible exact H) | (have H2_ := (yV _ _).symm.trans H; rw [hy559]; with_reducible exact H2_) | (have H2_ := (yV _ _).symm.trans H; with_reducible exact H2_) | with_reducible exact H | (rw [hy559]; exact H) | exact H
         have Ny559 := zK hy559
         clear hy559
         have H' := zK H
         clear H
         go_wp2_with (first | ((with_reducible refine gate_dst (N := 50) rfl ?_); refine Kd.R_make (Kd.int .i64) _ 2 rfl (N := 50) rfl 36 _ _ rfl (l0.length : Int) rfl rfl Try.underlying36 (.int .i64 0) 8 info2 rfl (by decide) (by omega) 0 (ok := fun _ => True) (okp := fun _ => True) rfl (fun _ hk => hk) trivial (yB (by first | (with_reducible assumption) | assumption)) (yl (Nat.mul_le_mul_right _ (yB (by first | (with_reducible assumption) | assumption) : (l0.length : Int).toNat ≤ 35184372088832)) (by omega)) (Below.refl _ _) (yN _) ?_; intro v560 w23 ho24 hb hg_ hnew_; clear hg_ hnew_; (first | rw [← Ny559.out] at ho24 | (simp only [Int.reduceToNat] at ho24; rw [← Ny559.out] at ho24)); have n0_ := zK (Kd.R_lower ho24 (yK (by repeat (first | (with_reducible first | exact HB.out | apply zJ | apply zD | apply zE | refine zI ?_ Z1.out) | exact HB.out)))); have n1_ := zK (zP (g := Z5) (o := .cells #[.int .i64 a2_0, .int .i64 a2_1, .int .i64 a2_2] 56 (0, 0)) (by (with_reducible repeat (first | refine zF ?_ _ | refine zH ?_ | refine zG ?_ _)); exact Z0.out) hb); have n2_ := zK (yL (by repeat (first | (with_reducible first | exact HB.out | apply zJ | apply zD | apply zE | refine zI ?_ Z1.out) | exact HB.out)) hb); clear Z0 HB; have HO561 := n0_; have Z0 := n1_; have HB := n2_; clear n0_ n1_ n2_ hb ho24))
         repeat (go_quiet (first | ((with_reducible refine gate_dst (N := 50) rfl ?_); refine Kd.R_make (Kd.int .i64) _ 2 rfl (N := 50) rfl 36 _ _ rfl (l0.length : Int) rfl rfl Try.underlying36 (.int .i64 0) 8 info2 rfl (by decide) (by omega) 0 (ok := fun _ => True) (okp := fun _ => True) rfl (fun _ hk => hk) trivial (yB (by first | (with_reducible assumption) | assumption)) (yl (Nat.mul_le_mul_right _ (yB (by first | (with_reducible assumption) | assumption) : (l0.length : Int).toNat ≤ 35184372088832)) (by omega)) (Below.refl _ _) (yN _) ?_; intro v560 w23 ho24 hb hg_ hnew_; clear hg_ hnew_; (first | rw [← Ny559.out] at ho24 | (simp only [Int.reduceToNat] at ho24; rw [← Ny559.out] at ho24)); have n0_ := zK (Kd.R_lower ho24 (yK (by repeat (first | (with_reducible first | exact HB.out | apply zJ | apply zD | apply zE | refine zI ?_ Z1.out) | exact HB.out)))); have n1_ := zK (zP (g := Z5) (o := .cells #[.int .i64 a2_0, .int .i64 a2_1, .int .i64 a2_2] 56 (0, 0)) (by (with_reducible repeat (first | refine zF ?_ _ | refine zH ?_ | refine zG ?_ _)); exact Z0.out) hb); have n2_ := zK (yL (by repeat (first | (with_reducible first | exact HB.out | apply zJ | apply zD | apply zE | refine zI ?_ Z1.out) | exact HB.out)) hb); clear Z0 HB; have HO561 := n0_; have Z0 := n1_; have HB := n2_; clear n0_ n1_ n2_ hb ho24)); try go_wp2_with (first | ((with_reducible refine gate_dst (N := 50) rfl ?_); refine Kd.R_make (Kd.int .i64) _ 2 rfl (N := 50) rfl 36 _ _ rfl (l0.length : Int) rfl rfl Try.underlying36 (.int .i64 0) 8 info2 rfl (by decide) (by omega) 0 (ok := fun _ => True) (okp := fun _ => True) rfl (fun _ hk => hk) trivial (yB (by first | (with_reducible assumption) | assumption)) (yl (Nat.mul_le_mul_right _ (yB (by first | (with_reducible assumption) | assumption) : (l0.length : Int).toNat ≤ 35184372088832)) (by omega)) (Below.refl _ _) (yN _) ?_; intro v560 w23 ho24 hb hg_ hnew_; clear hg_ hnew_; (first | rw [← Ny559.out] at ho24 | (simp only [Int.reduceToNat] at ho24; rw [← Ny559.out] at ho24)); have n0_ := zK (Kd.R_lower ho24 (yK (by repeat (first | (with_reducible first | exact HB.out | apply zJ | apply zD | apply zE | refine zI ?_ Z1.out) | exact HB.out)))); have n1_ := zK (zP (g := Z5) (o := .cells #[.int .i64 a2_0, .int .i64 a2_1, .int .i64 a2_2] 56 (0, 0)) (by (with_reducible repeat (first | refine zF ?_ _ | refine zH ?_ | refine zG ?_ _)); exact Z0.out) hb); have n2_ := zK (yL (by repeat (first | (with_reducible first | exact HB.out | apply zJ | apply zD | apply zE | refine zI ?_ Z1.out) | exact HB.out)) hb); clear Z0 HB; have HO561 := n0_; have Z0 := n1_; have HB := n2_; clear n0_ n1_ n2_ hb ho24)))
         go_loopg [53] kj5 (fun kq v53 w' => ∃ (x8_2 : List Int) (x53_2 : Int), v53 = .int .i64 x53_2 ∧ Aside0 (r22_Penalise.l0 kq l0 l1 x8_2 l1 (l1.length : Int) x53_2 a2_0 a2_1 a2_2 = some (r1, r2)) ∧ Aside0 (kq ≤ kj5) ∧ Aside0 (Kd.R (Kd.int .i64) 2 w' w.heap.size (fun _ => True) v560 x8_2) ∧ Aside0 (w'.heap[Z5]? = some (.cells #[.int .i64 a2_0, .int .i64 a2_1, .int .i64 a2_2] 56 (0, 0))) ∧ Aside0 (Below w.heap.size w w'))
         case atStart => exact ⟨(y559), (0), (by first | rfl | (simp; done) | (simp [*]; done)), H', ⟨yN _⟩, ⟨by (with_reducible repeat (first | apply zL | apply zM | apply zN)); exact HO561.out⟩, ⟨by (with_reducible repeat (first | refine zF ?_ _ | refine zH ?_ | refine zG ?_ _)); exact Z0.out⟩, ⟨by repeat (first | (with_reducible first | exact HB.out | apply zJ | apply zD | apply zE | refine zI ?_ Z1.out) | exact HB.out)⟩⟩
         case round =>
          clear H'
          try clear c1
          try clear c2
          try clear p2
          try clear c5
          try clear c8
          try clear c8b0
          try clear c10
          try clear c10b0
          try clear c12
          try clear c12b0
          try clear c14
          try clear c14b0
          try clear c16
          try clear c16b0
          try clear c19
          try clear c20
          try clear c20b0
          try clear c20b1
          try clear c21
          try clear c21b0
          try clear c21b1
          try clear c22
          try clear c22b0
          try clear c22b1
          try clear hcz11_0
          try clear hcz11_1
          try clear hcz11_2
          try clear hcz13_0
          try clear hcz13_1
          try clear hcz13_2
          try clear hcz15_0
          try clear hcz15_1
          try clear hcz15_2
          try clear hcz17_0
          try clear hcz17_1
          try clear hcz17_2
          try clear hcz18_0
          try clear hcz18_1
          try clear hcz18_2
          try clear hcz9_0
          try clear hcz9_1
          try clear hcz9_2
          try clear hfz11_0
          try clear hfz11_1
          try clear hfz11_2
          try clear hfz13_0
          try clear hfz13_1
          try clear hfz13_2
          try clear hfz15_0
          try clear hfz15_1
          try clear hfz15_2
          try clear hfz17_0
          try clear hfz17_1
          try clear hfz17_2
          try clear hfz18_0
          try clear hfz18_1
          try clear hfz18_2
          try clear hfz9_0
          try clear hfz9_1
          try clear hfz9_2
          try clear p2
          obtain ⟨x8_2, x53_2, rfl, HA, HK2, HO_8, Z0, HB⟩ := hrel
          cases gk with
          | zero => exact absurd HA.out (by simp [r22_Penalise.l0])
          | succ k2 =>
           have H := HA.out
           clear HA
           simp only [r22_Penalise.l0] at H
           by_cases c25 : x53_2 < (l1.length : Int)
           ·rw [if_pos c25] at H
            have c25b0 : decide (x53_2 < (l1.length : Int)) = true := yC c25
            clear c25
            by_cases c26 : 0 ≤ x53_2
            ·rw [if_pos c26] at H
             have c26b0 : decide (0 ≤ x53_2) = true := yC c26
             clear c26
             by_cases c27 : x53_2 < (l1.length : Int)
             ·rw [if_pos c27] at H
              have c27b0 : decide (x53_2 < (l1.length : Int)) = true := yC c27
              clear c27
              have HC28 := zK H
              clear H
              have p562 : 0 ≤ (x53_2 : Int) := yB (by first | (with_reducible assumption) | assumption)
              have q562 : x53_2 < (l1.length : Int) := yB (by first | (with_reducible assumption) | assumption)
              obtain ⟨ad562, e562, hx562_0⟩ := Kd.at_int HR1.out x53_2 p562 q562
              cases e562
              replace hx562_0 := (HB.out.cell (World.block_lt_of_cell? w _ hx562_0)).trans hx562_0
              replace p562 := yg p562
              replace q562 := yg q562
              go_upto_region 11 with (fail)
              repeat (go_quiet (fail); go_upto_region 11 with (fail))
              go_cut [65] (fun v65 wc => ∃ (kq : Nat) (x65_27 : Bool), v65 = .bool x65_27 ∧ Aside0 (r22_Penalise.j2 kq l0 l1 x8_2 x53_2 (rd l1 x53_2) l1 (l1.length : Int) x53_2 x65_27 a2_0 a2_1 a2_2 = some (r1, r2)) ∧ Aside0 (kq ≤ k2) ∧ Aside0 (Kd.R (Kd.int .i64) 2 wc w.heap.size (fun _ => True) v560 x8_2) ∧ Aside0 (wc.heap[Z5]? = some (.cells #[.int .i64 a2_0, .int .i64 a2_1, .int .i64 a2_2] 56 (0, 0))) ∧ Aside0 (Below w.heap.size w wc))
              case first =>
               have H := HC28.out
               clear HC28
               by_cases c29 : (rd l1 x53_2) < 0
               ·rw [if_pos c29] at H
                have c29b0 : decide ((rd l1 x53_2) < 0) = true := yC c29
                clear c29
                (first | rw [c29b0] | (simp only [i64_w, i32_w]; rw [c29b0]) | skip)
                have H' := zK H
                clear H
                go_wp2
                repeat (go_quiet (fail); try go_wp2)
                go_meet
                case rel => exact ⟨_, (true), (by first | rfl | (simp; done) | (simp [*]; done)), H', ⟨by have := HJ5.out; have := HK2.out; first | omega | exact yN _⟩, ⟨by (with_reducible repeat (first | apply zL | apply zM | apply zN)); exact HO_8.out⟩, ⟨by (with_reducible repeat (first | refine zF ?_ _ | refine zH ?_ | refine zG ?_ _)); exact Z0.out⟩, ⟨by repeat (first | (with_reducible first | exact HB.out | apply zJ | apply zD | apply zE | refine zI ?_ Z1.out) | exact HB.out)⟩⟩
               ·rw [if_neg c29] at H
                have c29b0 : decide ((rd l1 x53_2) < 0) = false := yD c29
                clear c29
                (first | rw [c29b0] | (simp only [i64_w, i32_w]; rw [c29b0]) | skip)
                have H' := zK H
                clear H
                go_wp2
                repeat (go_quiet (fail); try go_wp2)
                go_meet
                case rel => exact ⟨_, (decide ((rd l1 x53_2) ≥ (l0.length : Int))), (by first | rfl | (simp; done) | (simp [*]; done)), H', ⟨by have := HJ5.out; have := HK2.out; first | omega | exact yN _⟩, ⟨by (with_reducible repeat (first | apply zL | apply zM | apply zN)); exact HO_8.out⟩, ⟨by (with_reducible repeat (first | refine zF ?_ _ | refine zH ?_ | refine zG ?_ _)); exact Z0.out⟩, ⟨by repeat (first | (with_reducible first | exact HB.out | apply zJ | apply zD | apply zE | refine zI ?_ Z1.out) | exact HB.out)⟩⟩
              case rest =>
               clear HC28
               try clear c1
               try clear c2
               try clear p2
               try clear c5
               try clear p5
               try clear q5
               try clear hx5
               try clear c8
               try clear c8b0
               try clear c10
               try clear c10b0
               try clear c12
               try clear c12b0
               try clear c14
               try clear c14b0
               try clear c16
               try clear c16b0
               try clear c19
               try clear c20
               try clear c20b0
               try clear c20b1
               try clear c21
               try clear c21b0
               try clear c21b1
               try clear c22
               try clear c22b0
               try clear c22b1
               try clear c25
               try clear c25b0
               try clear c26
               try clear c26b0
               try clear c27
               try clear c27b0
               try clear c29
               try clear c29b0
               try clear hcz11_0
               try clear hcz11_1
               try clear hcz11_2
               try clear hcz13_0
               try clear hcz13_1
               try clear hcz13_2
               try clear hcz15_0
               try clear hcz15_1
               try clear hcz15_2
               try clear hcz17_0
               try clear hcz17_1
               try clear hcz17_2
               try clear hcz18_0
               try clear hcz18_1
               try clear hcz18_2
               try clear hcz9_0
               try clear hcz9_1
               try clear hcz9_2
               try clear hfz11_0
               try clear hfz11_1
               try clear hfz11_2
               try clear hfz13_0
               try clear hfz13_1
               try clear hfz13_2
               try clear hfz15_0
               try clear hfz15_1
               try clear hfz15_2
               try clear hfz17_0
               try clear hfz17_1
               try clear hfz17_2
               try clear hfz18_0
               try clear hfz18_1
               try clear hfz18_2
               try clear hfz9_0
               try clear hfz9_1
               try clear hfz9_2
               try clear hx562_0
               try clear p2
               try clear p562
               try clear q562
               obtain ⟨kq, x65_27, rfl, HA, HJ27, HO_8, Z0, HB⟩ := hcut
               cases kq with
               | zero => exact absurd HA.out (by simp [r22_Penalise.j2])
               | succ kj27 =>
                have H := HA.out
                clear HA
                simp only [r22_Penalise.j2] at H
                by_cases c30 : x65_27 = true
                ·subst c30
                 have H1 : (some (([] : List Int), 1)) = some (r1, r2) := by rw [if_pos rfl] at H; exact H
                 clear H
                 have H := H1
                 clear H1
                 simp only [yZ, ya] at H
                 obtain ⟨rfl, rfl⟩ := H
                 go_wp2
                 repeat (go_quiet (fail); try go_wp2)
                 go_ret2
                 exact ⟨_, by first | rfl | (simp [errW_none, errW_some] <;> rfl) | (simp [*, errW_none, errW_some] <;> rfl), by first | exact Kd.R_nil _ _ _ _ _ | exact Kd.N_nil _ _ _ _ _ | exact Kd.V_nil _ _ _ _ _ | exact Kd.Q_nil _ _ _ _ _ | exact Kd.S_nil _ _ _ _ _, by repeat (first | (with_reducible first | exact HB.out | apply zJ | apply zD | apply zE | refine zI ?_ Z1.out) | exact HB.out)⟩
                ·replace c30 := yh.mpr c30
                 subst c30
                 have H1 : (if a2_0 = 0 then (if 0 ≤ (rd l1 x53_2) then (if (rd l1 x53_2) < (x8_2.length : Int) then (r22_Penalise.l0 kj27 l0 l1 (x8_2.set ((rd l1 x53_2) : Int).toNat (wrap64 ((rd x8_2 (rd l1 x53_2)) + 1))) l1 (l1.length : Int) (wrap64 (x53_2 + 1)) a2_0 a2_1 a2_2) else (none)) else (none)) else (if x53_2 ≥ (wrap64 ((l1.length : Int) - a2_0)) then (if 0 ≤ (rd l1 x53_2) then (if (rd l1 x53_2) < (x8_2.length : Int) then (r22_Penalise.l0 kj27 l0 l1 (x8_2.set ((rd l1 x53_2) : Int).toNat (wrap64 ((rd x8_2 (rd l1 x53_2)) + 1))) l1 (l1.length : Int) (wrap64 (x53_2 + 1)) a2_0 a2_1 a2_2) else (none)) else (none)) else (r22_Penalise.l0 kj27 l0 l1 x8_2 l1 (l1.length : Int) (wrap64 (x53_2 + 1)) a2_0 a2_1 a2_2))) = some (r1, r2) := by rw [if_neg (show ¬ (false = true) by decide)] at H; exact H
                 clear H
                 have H := H1
                 clear H1
                 by_cases c31 : a2_0 = 0
                 ·rw [if_pos c31] at H
                  have c31b0 : (a2_0 == 0) = true := beq_iff_eq.mpr c31
                  have c31b1 : (a2_0 != 0) = false := bne_eq_false_iff_eq.mpr c31
                  clear c31
                  by_cases c32 : 0 ≤ (rd l1 x53_2)
                  ·rw [if_pos c32] at H
                   have c32b0 : decide (0 ≤ (rd l1 x53_2)) = true := yC c32
                   clear c32
                   by_cases c33 : (rd l1 x53_2) < (x8_2.length : Int)
                   ·rw [if_pos c33] at H
                    have c33b0 : decide ((rd l1 x53_2) < (x8_2.length : Int)) = true := yC c33
                    clear c33
                    obtain ⟨y564, hy564⟩ : ∃ y_ : List Int, y_ = (x8_2.set ((rd l1 x53_2) : Int).toNat (wrap64 ((rd x8_2 (rd l1 x53_2)) + 1))) := ⟨_, rfl⟩
                    replace H : (r22_Penalise.l0 kj27 l0 l1 y564 l1 (l1.length : Int) (wrap64 (x53_2 + 1)) a2_0 a2_1 a2_2) = some (r1, r2) := by first | (rw [hy564]; with_reducible exact H) | (have H2_ := (yV _ _).symm.trans H; rw [hy564]; with_reducible exact H2_) | (have H2_ := (yV _ _).symm.trans H; with_reducible exact H2_) | with_reducible exact H | (rw [hy564]; exact H) | exact H
                    have Ny564 := zK hy564
                    clear hy564
                    have H' := zK H
                    clear H
                    have hcz35_0 : wc.cell? ⟨Z5, 0, none⟩ = some (.int .i64 a2_0) := (zO Z0.out 0).trans rfl
                    have hcz35_1 : wc.cell? ⟨Z5, 1, none⟩ = some (.int .i64 a2_1) := (zO Z0.out 1).trans rfl
                    have hcz35_2 : wc.cell? ⟨Z5, 2, none⟩ = some (.int .i64 a2_2) := (zO Z0.out 2).trans rfl
                    have hfz35_0 := yE Z0.out 0
                    have hfz35_1 := yE Z0.out 1
                    have hfz35_2 := yE Z0.out 2
                    obtain ⟨Ao36, co36, eo36⟩ := Kd.R_slice HO_8.out
                    subst eo36
                    have p563 : 0 ≤ ((rd l1 x53_2) : Int) := yB (by first | (with_reducible assumption) | assumption)
                    have q563 : (rd l1 x53_2) < (x8_2.length : Int) := yB (by first | (with_reducible assumption) | assumption)
                    obtain ⟨ad563, e563, hx563_0⟩ := Kd.at_int (yM HO_8.out).2.2 (rd l1 x53_2) p563 q563
                    cases e563
                    replace p563 := yg p563
                    replace q563 := yg q563
                    have p34 : 0 ≤ ((rd l1 x53_2) : Int) := yB (by first | (with_reducible assumption) | assumption)
                    have q34 : ((rd l1 x53_2) : Int) < ((x8_2.length : Int) : Int) := yB (by first | (with_reducible assumption) | assumption)
                    obtain ⟨go34, co34, eo34, Z3, gl34, cl34, HG34⟩ := Kd.R_form HO_8.out (by omega)
                    (first | cases eo34 | (injection eo34 with ea_ en_ ec_; (first | subst ea_ | (injection ea_ with ea_; subst ea_)); subst ec_; clear en_))
                    have GB34 := zK Z3
                    have GG34 := zK HG34
                    clear Z3 gl34 HG34
                    (first | simp only [add_plain] at hx563_0 | skip)
                    obtain ⟨hx34_0, hf34_0⟩ := Kd.R_celln 0 HO_8.out ((rd l1 x53_2) : Int) p34 q34
                    replace p34 := yg p34
                    replace q34 := yg q34
                    have HP37 := Kd.R_putg HO_8.out ((rd l1 x53_2) : Int) (wrap64 ((rd x8_2 (rd l1 x53_2)) + 1))
                    go_wp2_with (first | ((with_reducible refine gate_store (t := 2) (p := 83) rfl ?_); (try (rw [drewN_self wc]; generalize hq_ : World.drewN wc _ = wc; have n0_ := zK (Kd.R_at hq_ HO_8.out); have n1_ := zK (blk_at hq_ Z0.out); have n2_ := zK (below_at hq_ HB.out); clear hq_ HO_8 Z0 HB; have HO_8 := n0_; have Z0 := n1_; have HB := n2_; clear n0_ n1_ n2_; (try (have HP37 := Kd.R_putg HO_8.out ((rd l1 x53_2) : Int) (wrap64 ((rd x8_2 (rd l1 x53_2)) + 1)))))); refine store_event (t := 2) (p := 83) (v := ?vo_w38) (w1 := (wc.setCell ⟨go34, ((rd l1 x53_2) : Int).toNat, none⟩ (.int .i64 (wrap64 ((rd x8_2 (rd l1 x53_2)) + 1))))) ?hg ?ho ?hn ?hr ?_; (case ho => rfl); (case hg => rfl); (case hn => rfl); (case hr => first | (go_simp; done) | (go_simp; rfl)); intro w38 hw; have hg : wc.grownBy w38 (some go34) := (by rw [hw]; exact HP37.2); have hp_ : Kd.R (Kd.int .i64) 2 w38 w.heap.size (fun _ => True) (.slice (some ⟨go34, 0, none⟩) x8_2.length co36) y564 := (by rw [hw, Ny564.out]; exact HP37.1); clear HP37; have n0_ := zK (hp_); have n1_ := zK (blk_grown (g := Z5) (o := .cells #[.int .i64 a2_0, .int .i64 a2_1, .int .i64 a2_2] 56 (0, 0)) (by (with_reducible repeat (first | refine zF ?_ _ | refine zH ?_ | refine zG ?_ _)); exact Z0.out) hg (Kd.R_ne HO_8.out Z0.out (by decide))); have n2_ := zK ((by rw [hw]; exact zI (HB.out) GB34.out : Below w.heap.size w w38)); clear HO_8 Z0 HB; have HO_8 := n0_; have Z0 := n1_; have HB := n2_; clear n0_ n1_ n2_ hg hw hp_))
                    repeat (go_quiet (first | ((with_reducible refine gate_store (t := 2) (p := 83) rfl ?_); (try (rw [drewN_self wc]; generalize hq_ : World.drewN wc _ = wc; have n0_ := zK (Kd.R_at hq_ HO_8.out); have n1_ := zK (blk_at hq_ Z0.out); have n2_ := zK (below_at hq_ HB.out); clear hq_ HO_8 Z0 HB; have HO_8 := n0_; have Z0 := n1_; have HB := n2_; clear n0_ n1_ n2_; (try (have HP37 := Kd.R_putg HO_8.out ((rd l1 x53_2) : Int) (wrap64 ((rd x8_2 (rd l1 x53_2)) + 1)))))); refine store_event (t := 2) (p := 83) (v := ?vo_w38) (w1 := (wc.setCell ⟨go34, ((rd l1 x53_2) : Int).toNat, none⟩ (.int .i64 (wrap64 ((rd x8_2 (rd l1 x53_2)) + 1))))) ?hg ?ho ?hn ?hr ?_; (case ho => rfl); (case hg => rfl); (case hn => rfl); (case hr => first | (go_simp; done) | (go_simp; rfl)); intro w38 hw; have hg : wc.grownBy w38 (some go34) := (by rw [hw]; exact HP37.2); have hp_ : Kd.R (Kd.int .i64) 2 w38 w.heap.size (fun _ => True) (.slice (some ⟨go34, 0, none⟩) x8_2.length co36) y564 := (by rw [hw, Ny564.out]; exact HP37.1); clear HP37; have n0_ := zK (hp_); have n1_ := zK (blk_grown (g := Z5) (o := .cells #[.int .i64 a2_0, .int .i64 a2_1, .int .i64 a2_2] 56 (0, 0)) (by (with_reducible repeat (first | refine zF ?_ _ | refine zH ?_ | refine zG ?_ _)); exact Z0.out) hg (Kd.R_ne HO_8.out Z0.out (by decide))); have n2_ := zK ((by rw [hw]; exact zI (HB.out) GB34.out : Below w.heap.size w w38)); clear HO_8 Z0 HB; have HO_8 := n0_; have Z0 := n1_; have HB := n2_; clear n0_ n1_ n2_ hg hw hp_)); try go_wp2_with (first | ((with_reducible refine gate_store (t := 2) (p := 83) rfl ?_); (try (rw [drewN_self wc]; generalize hq_ : World.drewN wc _ = wc; have n0_ := zK (Kd.R_at hq_ HO_8.out); have n1_ := zK (blk_at hq_ Z0.out); have n2_ := zK (below_at hq_ HB.out); clear hq_ HO_8 Z0 HB; have HO_8 := n0_; have Z0 := n1_; have HB := n2_; clear n0_ n1_ n2_; (try (have HP37 := Kd.R_putg HO_8.out ((rd l1 x53_2) : Int) (wrap64 ((rd x8_2 (rd l1 x53_2)) + 1)))))); refine store_event (t := 2) (p := 83) (v := ?vo_w38) (w1 := (wc.setCell ⟨go34, ((rd l1 x53_2) : Int).toNat, none⟩ (.int .i64 (wrap64 ((rd x8_2 (rd l1 x53_2)) + 1))))) ?hg ?ho ?hn ?hr ?_; (case ho => rfl); (case hg => rfl); (case hn => rfl); (case hr => first | (go_simp; done) | (go_simp; rfl)); intro w38 hw; have hg : wc.grownBy w38 (some go34) := (by rw [hw]; exact HP37.2); have hp_ : Kd.R (Kd.int .i64) 2 w38 w.heap.size (fun _ => True) (.slice (some ⟨go34, 0, none⟩) x8_2.length co36) y564 := (by rw [hw, Ny564.out]; exact HP37.1); clear HP37; have n0_ := zK (hp_); have n1_ := zK (blk_grown (g := Z5) (o := .cells #[.int .i64 a2_0, .int .i64 a2_1, .int .i64 a2_2] 56 (0, 0)) (by (with_reducible repeat (first | refine zF ?_ _ | refine zH ?_ | refine zG ?_ _)); exact Z0.out) hg (Kd.R_ne HO_8.out Z0.out (by decide))); have n2_ := zK ((by rw [hw]; exact zI (HB.out) GB34.out : Below w.heap.size w w38)); clear HO_8 Z0 HB; have HO_8 := n0_; have Z0 := n1_; have HB := n2_; clear n0_ n1_ n2_ hg hw hp_)))
                    go_roundg kj27
                    case measure => have := HJ5.out; have := HK2.out; have := HJ27.out; omega
                    case rel => exact ⟨(y564), (wrap64 (x53_2 + 1)), (by first | rfl | (simp; done) | (simp [*]; done)), H', ⟨by have := HJ5.out; have := HK2.out; have := HJ27.out; omega⟩, ⟨by (with_reducible repeat (first | apply zL | apply zM | apply zN)); exact HO_8.out⟩, ⟨by (with_reducible repeat (first | refine zF ?_ _ | refine zH ?_ | refine zG ?_ _)); exact Z0.out⟩, ⟨by repeat (first | (with_reducible first | exact HB.out | apply zJ | apply zD | apply zE | refine zI ?_ Z1.out) | exact HB.out)⟩⟩
                   ·rw [if_neg c33] at H
                    exact absurd H (by simp)
                  ·rw [if_neg c32] at H
                   exact absurd H (by simp)
                 ·rw [if_neg c31] at H
                  have c31b0 : (a2_0 == 0) = false := beq_eq_false_iff_ne.mpr c31
                  have c31b1 : (a2_0 != 0) = true := bne_iff_ne.mpr c31
                  by_cases c39 : x53_2 ≥ (wrap64 ((l1.length : Int) - a2_0))
                  ·rw [if_pos c39] at H
                   have c39b0 : decide ((wrap64 ((l1.length : Int) - a2_0)) ≤ x53_2) = true := yC c39
                   clear c39
                   by_cases c40 : 0 ≤ (rd l1 x53_2)
                   ·rw [if_pos c40] at H
                    have c40b0 : decide (0 ≤ (rd l1 x53_2)) = true := yC c40
                    clear c40
                    by_cases c41 : (rd l1 x53_2) < (x8_2.length : Int)
                    ·rw [if_pos c41] at H
                     have c41b0 : decide ((rd l1 x53_2) < (x8_2.length : Int)) = true := yC c41
                     clear c41
                     obtain ⟨y566, hy566⟩ : ∃ y_ : List Int, y_ = (x8_2.set ((rd l1 x53_2) : Int).toNat (wrap64 ((rd x8_2 (rd l1 x53_2)) + 1))) := ⟨_, rfl⟩
                     replace H : (r22_Penalise.l0 kj27 l0 l1 y566 l1 (l1.length : Int) (wrap64 (x53_2 + 1)) a2_0 a2_1 a2_2) = some (r1, r2) := by first | (rw [hy566]; with_reducible exact H) | (have H2_ := (yV _ _).symm.trans H; rw [hy566]; with_reducible exact H2_) | (have H2_ := (yV _ _).symm.trans H; with_reducible exact H2_) | with_reducible exact H | (rw [hy566]; exact H) | exact H
                     have Ny566 := zK hy566
                     clear hy566
                     have H' := zK H
                     clear H
                     have hcz43_0 : wc.cell? ⟨Z5, 0, none⟩ = some (.int .i64 a2_0) := (zO Z0.out 0).trans rfl
                     have hcz43_1 : wc.cell? ⟨Z5, 1, none⟩ = some (.int .i64 a2_1) := (zO Z0.out 1).trans rfl
                     have hcz43_2 : wc.cell? ⟨Z5, 2, none⟩ = some (.int .i64 a2_2) := (zO Z0.out 2).trans rfl
                     have hfz43_0 := yE Z0.out 0
                     have hfz43_1 := yE Z0.out 1
                     have hfz43_2 := yE Z0.out 2
                     obtain ⟨Ao44, co44, eo44⟩ := Kd.R_slice HO_8.out
                     subst eo44
                     have p565 : 0 ≤ ((rd l1 x53_2) : Int) := yB (by first | (with_reducible assumption) | assumption)
                     have q565 : (rd l1 x53_2) < (x8_2.length : Int) := yB (by first | (with_reducible assumption) | assumption)
                     obtain ⟨ad565, e565, hx565_0⟩ := Kd.at_int (yM HO_8.out).2.2 (rd l1 x53_2) p565 q565
                     cases e565
                     replace p565 := yg p565
                     replace q565 := yg q565
                     have p42 : 0 ≤ ((rd l1 x53_2) : Int) := yB (by first | (with_reducible assumption) | assumption)
                     have q42 : ((rd l1 x53_2) : Int) < ((x8_2.length : Int) : Int) := yB (by first | (with_reducible assumption) | assumption)
                     obtain ⟨go42, co42, eo42, Z4, gl42, cl42, HG42⟩ := Kd.R_form HO_8.out (by omega)
                     (first | cases eo42 | (injection eo42 with ea_ en_ ec_; (first | subst ea_ | (injection ea_ with ea_; subst ea_)); subst ec_; clear en_))
                     have GB42 := zK Z4
                     have GG42 := zK HG42
                     clear Z4 gl42 HG42
                     (first | simp only [add_plain] at hx565_0 | skip)
                     obtain ⟨hx42_0, hf42_0⟩ := Kd.R_celln 0 HO_8.out ((rd l1 x53_2) : Int) p42 q42
                     replace p42 := yg p42
                     replace q42 := yg q42
                     have HP45 := Kd.R_putg HO_8.out ((rd l1 x53_2) : Int) (wrap64 ((rd x8_2 (rd l1 x53_2)) + 1))
                     go_wp2_with (first | ((with_reducible refine gate_store (t := 2) (p := 83) rfl ?_); (try (rw [drewN_self wc]; generalize hq_ : World.drewN wc _ = wc; have n0_ := zK (Kd.R_at hq_ HO_8.out); have n1_ := zK (blk_at hq_ Z0.out); have n2_ := zK (below_at hq_ HB.out); clear hq_ HO_8 Z0 HB; have HO_8 := n0_; have Z0 := n1_; have HB := n2_; clear n0_ n1_ n2_; (try (have HP45 := Kd.R_putg HO_8.out ((rd l1 x53_2) : Int) (wrap64 ((rd x8_2 (rd l1 x53_2)) + 1)))))); refine store_event (t := 2) (p := 83) (v := ?vo_w46) (w1 := (wc.setCell ⟨go42, ((rd l1 x53_2) : Int).toNat, none⟩ (.int .i64 (wrap64 ((rd x8_2 (rd l1 x53_2)) + 1))))) ?hg ?ho ?hn ?hr ?_; (case ho => rfl); (case hg => rfl); (case hn => rfl); (case hr => first | (go_simp; done) | (go_simp; rfl)); intro w46 hw; have hg : wc.grownBy w46 (some go42) := (by rw [hw]; exact HP45.2); have hp_ : Kd.R (Kd.int .i64) 2 w46 w.heap.size (fun _ => True) (.slice (some ⟨go42, 0, none⟩) x8_2.length co44) y566 := (by rw [hw, Ny566.out]; exact HP45.1); clear HP45; have n0_ := zK (hp_); have n1_ := zK (blk_grown (g := Z5) (o := .cells #[.int .i64 a2_0, .int .i64 a2_1, .int .i64 a2_2] 56 (0, 0)) (by (with_reducible repeat (first | refine zF ?_ _ | refine zH ?_ | refine zG ?_ _)); exact Z0.out) hg (Kd.R_ne HO_8.out Z0.out (by decide))); have n2_ := zK ((by rw [hw]; exact zI (HB.out) GB42.out : Below w.heap.size w w46)); clear HO_8 Z0 HB; have HO_8 := n0_; have Z0 := n1_; have HB := n2_; clear n0_ n1_ n2_ hg hw hp_))
                     repeat (go_quiet (first | ((with_reducible refine gate_store (t := 2) (p := 83) rfl ?_); (try (rw [drewN_self wc]; generalize hq_ : World.drewN wc _ = wc; have n0_ := zK (Kd.R_at hq_ HO_8.out); have n1_ := zK (blk_at hq_ Z0.out); have n2_ := zK (below_at hq_ HB.out); clear hq_ HO_8 Z0 HB; have HO_8 := n0_; have Z0 := n1_; have HB := n2_; clear n0_ n1_ n2_; (try (have HP45 := Kd.R_putg HO_8.out ((rd l1 x53_2) : Int) (wrap64 ((rd x8_2 (rd l1 x53_2)) + 1)))))); refine store_event (t := 2) (p := 83) (v := ?vo_w46) (w1 := (wc.setCell ⟨go42, ((rd l1 x53_2) : Int).toNat, none⟩ (.int .i64 (wrap64 ((rd x8_2 (rd l1 x53_2)) + 1))))) ?hg ?ho ?hn ?hr ?_; (case ho => rfl); (case hg => rfl); (case hn => rfl); (case hr => first | (go_simp; done) | (go_simp; rfl)); intro w46 hw; have hg : wc.grownBy w46 (some go42) := (by rw [hw]; exact HP45.2); have hp_ : Kd.R (Kd.int .i64) 2 w46 w.heap.size (fun _ => True) (.slice (some ⟨go42, 0, none⟩) x8_2.length co44) y566 := (by rw [hw, Ny566.out]; exact HP45.1); clear HP45; have n0_ := zK (hp_); have n1_ := zK (blk_grown (g := Z5) (o := .cells #[.int .i64 a2_0, .int .i64 a2_1, .int .i64 a2_2] 56 (0, 0)) (by (with_reducible repeat (first | refine zF ?_ _ | refine zH ?_ | refine zG ?_ _)); exact Z0.out) hg (Kd.R_ne HO_8.out Z0.out (by decide))); have n2_ := zK ((by rw [hw]; exact zI (HB.out) GB42.out : Below w.heap.size w w46)); clear HO_8 Z0 HB; have HO_8 := n0_; have Z0 := n1_; have HB := n2_; clear n0_ n1_ n2_ hg hw hp_)); try go_wp2_with (first | ((with_reducible refine gate_store (t := 2) (p := 83) rfl ?_); (try (rw [drewN_self wc]; generalize hq_ : World.drewN wc _ = wc; have n0_ := zK (Kd.R_at hq_ HO_8.out); have n1_ := zK (blk_at hq_ Z0.out); have n2_ := zK (below_at hq_ HB.out); clear hq_ HO_8 Z0 HB; have HO_8 := n0_; have Z0 := n1_; have HB := n2_; clear n0_ n1_ n2_; (try (have HP45 := Kd.R_putg HO_8.out ((rd l1 x53_2) : Int) (wrap64 ((rd x8_2 (rd l1 x53_2)) + 1)))))); refine store_event (t := 2) (p := 83) (v := ?vo_w46) (w1 := (wc.setCell ⟨go42, ((rd l1 x53_2) : Int).toNat, none⟩ (.int .i64 (wrap64 ((rd x8_2 (rd l1 x53_2)) + 1))))) ?hg ?ho ?hn ?hr ?_; (case ho => rfl); (case hg => rfl); (case hn => rfl); (case hr => first | (go_simp; done) | (go_simp; rfl)); intro w46 hw; have hg : wc.grownBy w46 (some go42) := (by rw [hw]; exact HP45.2); have hp_ : Kd.R (Kd.int .i64) 2 w46 w.heap.size (fun _ => True) (.slice (some ⟨go42, 0, none⟩) x8_2.length co44) y566 := (by rw [hw, Ny566.out]; exact HP45.1); clear HP45; have n0_ := zK (hp_); have n1_ := zK (blk_grown (g := Z5) (o := .cells #[.int .i64 a2_0, .int .i64 a2_1, .int .i64 a2_2] 56 (0, 0)) (by (with_reducible repeat (first | refine zF ?_ _ | refine zH ?_ | refine zG ?_ _)); exact Z0.out) hg (Kd.R_ne HO_8.out Z0.out (by decide))); have n2_ := zK ((by rw [hw]; exact zI (HB.out) GB42.out : Below w.heap.size w w46)); clear HO_8 Z0 HB; have HO_8 := n0_; have Z0 := n1_; have HB := n2_; clear n0_ n1_ n2_ hg hw hp_)))
                     go_roundg kj27
                     case measure => have := HJ5.out; have := HK2.out; have := HJ27.out; omega
                     case rel => exact ⟨(y566), (wrap64 (x53_2 + 1)), (by first | rfl | (simp; done) | (simp [*]; done)), H', ⟨by have := HJ5.out; have := HK2.out; have := HJ27.out; omega⟩, ⟨by (with_reducible repeat (first | apply zL | apply zM | apply zN)); exact HO_8.out⟩, ⟨by (with_reducible repeat (first | refine zF ?_ _ | refine zH ?_ | refine zG ?_ _)); exact Z0.out⟩, ⟨by repeat (first | (with_reducible first | exact HB.out | apply zJ | apply zD | apply zE | refine zI ?_ Z1.out) | exact HB.out)⟩⟩
                    ·rw [if_neg c41] at H
                     exact absurd H (by simp)
                   ·rw [if_neg c40] at H
                    exact absurd H (by simp)
                  ·rw [if_neg c39] at H
                   have c39b0 : decide ((wrap64 ((l1.length : Int) - a2_0)) ≤ x53_2) = false := yD c39
                   clear c39
                   have H' := zK H
                   clear H
                   have hcz47_0 : wc.cell? ⟨Z5, 0, none⟩ = some (.int .i64 a2_0) := (zO Z0.out 0).trans rfl
                   have hcz47_1 : wc.cell? ⟨Z5, 1, none⟩ = some (.int .i64 a2_1) := (zO Z0.out 1).trans rfl
                   have hcz47_2 : wc.cell? ⟨Z5, 2, none⟩ = some (.int .i64 a2_2) := (zO Z0.out 2).trans rfl
                   have hfz47_0 := yE Z0.out 0
                   have hfz47_1 := yE Z0.out 1
                   have hfz47_2 := yE Z0.out 2
                   go_wp2
                   repeat (go_quiet (fail); try go_wp2)
                   go_roundg kj27
                   case measure => have := HJ5.out; have := HK2.out; have := HJ27.out; omega
                   case rel => exact ⟨(x8_2), (wrap64 (x53_2 + 1)), (by first | rfl | (simp; done) | (simp [*]; done)), H', ⟨by have := HJ5.out; have := HK2.out; have := HJ27.out; omega⟩, ⟨by (with_reducible repeat (first | apply zL | apply zM | apply zN)); exact HO_8.out⟩, ⟨by (with_reducible repeat (first | refine zF ?_ _ | refine zH ?_ | refine zG ?_ _)); exact Z0.out⟩, ⟨by repeat (first | (with_reducible first | exact HB.out | apply zJ | apply zD | apply zE | refine zI ?_ Z1.out) | exact HB.out)⟩⟩
             ·rw [if_neg c27] at H
              exact absurd H (by simp)
            ·rw [if_neg c26] at H
             exact absurd H (by simp)
           ·rw [if_neg c25] at H
            have c25b0 : decide (x53_2 < (l1.length : Int)) = false := yD c25
            clear c25
            obtain ⟨y567, hy567⟩ : ∃ y_ : List Int, y_ = (([] : List Int)) := ⟨_, rfl⟩
            replace H : (r22_Penalise.l1 k2 x8_2 y567 l0 (l0.length : Int) 0 a2_0 a2_1 a2_2) = some (r1, r2) := by first | (rw [hy567]; with_reducible exact H) | (have H2_ := (yV _ _).symm.trans H; rw [hy567]; with_reducible exact H2_) | (have H2_ := (yV _ _).symm.trans H; with_reducible exact H2_) | with_reducible exact H | (rw [hy567]; exact H) | exact H
            have Ny567 := zK hy567
            clear hy567
            have H' := zK H
            clear H
            go_wp2_with (first | ((with_reducible refine gate_dst (N := 85) rfl ?_); refine Kd.R_lit (Kd.int .i64) _ 2 ?hg (N := 85) ?hd (xs := ([] : List Int)) (inner := []) (ok := fun _ => True) (okp := fun _ => True) ?hr ?hp (fun _ hk => hk) trivial (Below.refl _ _) (yN _) (by simp) ?_; (case hd => rfl); (case hg => rfl); (case hr => first | (go_simp; done) | (go_simp; rfl)); (case hp => exact (Reps.none _ _)); intro v568 w48 ho49 hb hg_ hnew_; clear hg_ hnew_; (first | rw [← Ny567.out] at ho49 | (simp only [Int.reduceToNat] at ho49; rw [← Ny567.out] at ho49)); have n0_ := zK (Kd.R_elder' (by (with_reducible repeat (first | apply zL | apply zM | apply zN)); exact HO_8.out) (Kd.R_base ho49) hb); have n1_ := zK (Kd.R_lower (Kd.R_new' ho49 (Kd.R_lt (by (with_reducible repeat (first | apply zL | apply zM | apply zN)); exact HO_8.out))) (yK (by repeat (first | (with_reducible first | exact HB.out | apply zJ | apply zD | apply zE | refine zI ?_ Z1.out) | exact HB.out)))); have n2_ := zK (zP (g := Z5) (o := .cells #[.int .i64 a2_0, .int .i64 a2_1, .int .i64 a2_2] 56 (0, 0)) (by (with_reducible repeat (first | refine zF ?_ _ | refine zH ?_ | refine zG ?_ _)); exact Z0.out) hb); have n3_ := zK (yL (by repeat (first | (with_reducible first | exact HB.out | apply zJ | apply zD | apply zE | refine zI ?_ Z1.out) | exact HB.out)) hb); clear HO_8 Z0 HB; have HO_8 := n0_; have HO569 := n1_; have Z0 := n2_; have HB := n3_; clear n0_ n1_ n2_ n3_ hb ho49))
            repeat (go_quiet (first | ((with_reducible refine gate_dst (N := 85) rfl ?_); refine Kd.R_lit (Kd.int .i64) _ 2 ?hg (N := 85) ?hd (xs := ([] : List Int)) (inner := []) (ok := fun _ => True) (okp := fun _ => True) ?hr ?hp (fun _ hk => hk) trivial (Below.refl _ _) (yN _) (by simp) ?_; (case hd => rfl); (case hg => rfl); (case hr => first | (go_simp; done) | (go_simp; rfl)); (case hp => exact (Reps.none _ _)); intro v568 w48 ho49 hb hg_ hnew_; clear hg_ hnew_; (first | rw [← Ny567.out] at ho49 | (simp only [Int.reduceToNat] at ho49; rw [← Ny567.out] at ho49)); have n0_ := zK (Kd.R_elder' (by (with_reducible repeat (first | apply zL | apply zM | apply zN)); exact HO_8.out) (Kd.R_base ho49) hb); have n1_ := zK (Kd.R_lower (Kd.R_new' ho49 (Kd.R_lt (by (with_reducible repeat (first | apply zL | apply zM | apply zN)); exact HO_8.out))) (yK (by repeat (first | (with_reducible first | exact HB.out | apply zJ | apply zD | apply zE | refine zI ?_ Z1.out) | exact HB.out)))); have n2_ := zK (zP (g := Z5) (o := .cells #[.int .i64 a2_0, .int .i64 a2_1, .int .i64 a2_2] 56 (0, 0)) (by (with_reducible repeat (first | refine zF ?_ _ | refine zH ?_ | refine zG ?_ _)); exact Z0.out) hb); have n3_ := zK (yL (by repeat (first | (with_reducible first | exact HB.out | apply zJ | apply zD | apply zE | refine zI ?_ Z1.out) | exact HB.out)) hb); clear HO_8 Z0 HB; have HO_8 := n0_; have HO569 := n1_; have Z0 := n2_; have HB := n3_; clear n0_ n1_ n2_ n3_ hb ho49)); try go_wp2_with (first | ((with_reducible refine gate_dst (N := 85) rfl ?_); refine Kd.R_lit (Kd.int .i64) _ 2 ?hg (N := 85) ?hd (xs := ([] : List Int)) (inner := []) (ok := fun _ => True) (okp := fun _ => True) ?hr ?hp (fun _ hk => hk) trivial (Below.refl _ _) (yN _) (by simp) ?_; (case hd => rfl); (case hg => rfl); (case hr => first | (go_simp; done) | (go_simp; rfl)); (case hp => exact (Reps.none _ _)); intro v568 w48 ho49 hb hg_ hnew_; clear hg_ hnew_; (first | rw [← Ny567.out] at ho49 | (simp only [Int.reduceToNat] at ho49; rw [← Ny567.out] at ho49)); have n0_ := zK (Kd.R_elder' (by (with_reducible repeat (first | apply zL | apply zM | apply zN)); exact HO_8.out) (Kd.R_base ho49) hb); have n1_ := zK (Kd.R_lower (Kd.R_new' ho49 (Kd.R_lt (by (with_reducible repeat (first | apply zL | apply zM | apply zN)); exact HO_8.out))) (yK (by repeat (first | (with_reducible first | exact HB.out | apply zJ | apply zD | apply zE | refine zI ?_ Z1.out) | exact HB.out)))); have n2_ := zK (zP (g := Z5) (o := .cells #[.int .i64 a2_0, .int .i64 a2_1, .int .i64 a2_2] 56 (0, 0)) (by (with_reducible repeat (first | refine zF ?_ _ | refine zH ?_ | refine zG ?_ _)); exact Z0.out) hb); have n3_ := zK (yL (by repeat (first | (with_reducible first | exact HB.out | apply zJ | apply zD | apply zE | refine zI ?_ Z1.out) | exact HB.out)) hb); clear HO_8 Z0 HB; have HO_8 := n0_; have HO569 := n1_; have Z0 := n2_; have HB := n3_; clear n0_ n1_ n2_ n3_ hb ho49)))
            go_loopg [11, 88] k2 (fun kq v11 v88 w' => ∃ (x11_3 : List Int) (x88_3 : Int), v88 = .int .i64 x88_3 ∧ Aside0 (r22_Penalise.l1 kq x8_2 x11_3 l0 (l0.length : Int) x88_3 a2_0 a2_1 a2_2 = some (r1, r2)) ∧ Aside0 (kq ≤ k2) ∧ Aside0 (Kd.R (Kd.int .i64) 2 w' w.heap.size (fun k_ => some k_ ≠ (v11 : Value).ownBlock) v560 x8_2) ∧ Aside0 (Kd.R (Kd.int .i64) 2 w' w.heap.size (fun k_ => some k_ ≠ (v560 : Value).ownBlock) v11 x11_3) ∧ Aside0 (w'.heap[Z5]? = some (.cells #[.int .i64 a2_0, .int .i64 a2_1, .int .i64 a2_2] 56 (0, 0))) ∧ Aside0 (Below w.heap.size w w'))
            case atStart => exact ⟨(y567), (0), (by first | rfl | (simp; done) | (simp [*]; done)), H', ⟨yN _⟩, ⟨by (with_reducible repeat (first | apply zL | apply zM | apply zN)); exact yd HO_8.out (fun _ hk => hk.2)⟩, ⟨by (with_reducible repeat (first | apply zL | apply zM | apply zN)); exact yd HO569.out (fun _ hk => hk.2)⟩, ⟨by (with_reducible repeat (first | refine zF ?_ _ | refine zH ?_ | refine zG ?_ _)); exact Z0.out⟩, ⟨by repeat (first | (with_reducible first | exact HB.out | apply zJ | apply zD | apply zE | refine zI ?_ Z1.out) | exact HB.out)⟩⟩
            case round =>
             clear H'
             try clear c1
             try clear c2
             try clear p2
             try clear c3
             try clear p3
             try clear q3
             try clear hx3
             try clear hf3
             try clear c4
             try clear p4
             try clear q4
             try clear hx4
             try clear hf4
             try clear c5
             try clear p5
             try clear q5
             try clear hx5
             try clear p6
             try clear c8
             try clear c8b0
             try clear c10
             try clear c10b0
             try clear c12
             try clear c12b0
             try clear c14
             try clear c14b0
             try clear c16
             try clear c16b0
             try clear c19
             try clear c20
             try clear c20b0
             try clear c20b1
             try clear c21
             try clear c21b0
             try clear c21b1
             try clear c22
             try clear c22b0
             try clear c22b1
             try clear c25
             try clear c25b0
             try clear c26
             try clear c26b0
             try clear c27
             try clear c27b0
             try clear c29
             try clear c29b0
             try clear c30
             try clear c31
             try clear c31b0
             try clear c31b1
             try clear c32
             try clear c32b0
             try clear c33
             try clear c33b0
             try clear p34
             try clear q34
             try clear hx34
             try clear hf34
             try clear c39
             try clear c39b0
             try clear c40
             try clear c40b0
             try clear c41
             try clear c41b0
             try clear p42
             try clear q42
             try clear hx42
             try clear hf42
             try clear hcz11_0
             try clear hcz11_1
             try clear hcz11_2
             try clear hcz13_0
             try clear hcz13_1
             try clear hcz13_2
             try clear hcz15_0
             try clear hcz15_1
             try clear hcz15_2
             try clear hcz17_0
             try clear hcz17_1
             try clear hcz17_2
             try clear hcz18_0
             try clear hcz18_1
             try clear hcz18_2
             try clear hcz35_0
             try clear hcz35_1
             try clear hcz35_2
             try clear hcz43_0
             try clear hcz43_1
             try clear hcz43_2
             try clear hcz47_0
             try clear hcz47_1
             try clear hcz47_2
             try clear hcz9_0
             try clear hcz9_1
             try clear hcz9_2
             try clear hfz11_0
             try clear hfz11_1
             try clear hfz11_2
             try clear hfz13_0
             try clear hfz13_1
             try clear hfz13_2
             try clear hfz15_0
             try clear hfz15_1
             try clear hfz15_2
             try clear hfz17_0
             try clear hfz17_1
             try clear hfz17_2
             try clear hfz18_0
             try clear hfz18_1
             try clear hfz18_2
             try clear hfz35_0
             try clear hfz35_1
             try clear hfz35_2
             try clear hfz43_0
             try clear hfz43_1
             try clear hfz43_2
             try clear hfz47_0
             try clear hfz47_1
             try clear hfz47_2
             try clear hfz9_0
             try clear hfz9_1
             try clear hfz9_2
             try clear hx34_0
             try clear hx42_0
             try clear hx562_0
             try clear hx563_0
             try clear hx565_0
             try clear p2
             try clear p34
             try clear p42
             try clear p5
             try clear p562
             try clear p563
             try clear p565
             try clear q34
             try clear q42
             try clear q5
             try clear q562
             try clear q563
             try clear q565
             obtain ⟨x11_3, x88_3, rfl, HA, HK3, HO_8, HO_11, Z0, HB⟩ := hrel
             cases gk with
             | zero => exact absurd HA.out (by simp [r22_Penalise.l1])
             | succ k3 =>
              have H := HA.out
              clear HA
              simp only [r22_Penalise.l1] at H
              by_cases c50 : x88_3 < (l0.length : Int)
              ·rw [if_pos c50] at H
               have c50b0 : decide (x88_3 < (l0.length : Int)) = true := yC c50
               clear c50
               by_cases c51 : 0 ≤ x88_3
               ·rw [if_pos c51] at H
                have c51b0 : decide (0 ≤ x88_3) = true := yC c51
                clear c51
                by_cases c52 : x88_3 < (l0.length : Int)
                ·rw [if_pos c52] at H
                 have c52b0 : decide (x88_3 < (l0.length : Int)) = true := yC c52
                 clear c52
                 by_cases c53 : x88_3 < (x8_2.length : Int)
                 ·rw [if_pos c53] at H
                  have c53b0 : decide (x88_3 < (x8_2.length : Int)) = true := yC c53
                  clear c53
                  by_cases c54 : (rd x8_2 x88_3) > 0
                  ·rw [if_pos c54] at H
                   have c54b0 : decide (0 < (rd x8_2 x88_3)) = true := yC c54
                   clear c54
                   replace H := yA.mp H
                   obtain ⟨t573, A550, H⟩ := H
                   replace H : (if x11_3.length < 17592186044416 then (r22_Penalise.l1 k3 x8_2 (x11_3 ++ [t573]) l0 (l0.length : Int) (wrap64 (x88_3 + 1)) a2_0 a2_1 a2_2) else (none)) = some (r1, r2) := H
                   have A55 := zK A550
                   clear A550
                   by_cases c56 : x11_3.length < 17592186044416
                   ·rw [if_pos c56] at H
                    have LMc56 := zK c56
                    clear c56
                    obtain ⟨y574, hy574⟩ : ∃ y_ : List Int, y_ = (x11_3 ++ [t573]) := ⟨_, rfl⟩
                    replace H : (r22_Penalise.l1 k3 x8_2 y574 l0 (l0.length : Int) (wrap64 (x88_3 + 1)) a2_0 a2_1 a2_2) = some (r1, r2) := by first | (rw [hy574]; with_reducible exact H) | (have H2_ := (yV _ _).symm.trans H; rw [hy574]; with_reducible exact H2_) | (have H2_ := (yV _ _).symm.trans H; with_reducible exact H2_) | with_reducible exact H | (rw [hy574]; exact H) | exact H
                    have Ny574 := zK hy574
                    clear hy574
                    have H' := zK H
                    clear H
                    have p570 : 0 ≤ (x88_3 : Int) := yB (by first | (with_reducible assumption) | assumption)
                    have q570 : x88_3 < (l0.length : Int) := yB (by first | (with_reducible assumption) | assumption)
                    obtain ⟨ad570, e570, hx570_0⟩ := Kd.at_int HR0.out x88_3 p570 q570
                    cases e570
                    replace hx570_0 := (HB.out.cell (World.block_lt_of_cell? w _ hx570_0)).trans hx570_0
                    replace p570 := yg p570
                    replace q570 := yg q570
                    obtain ⟨Ao57, co57, eo57⟩ := Kd.R_slice HO_8.out
                    subst eo57
                    have p571 : 0 ≤ (x88_3 : Int) := yB (by first | (with_reducible assumption) | assumption)
                    have q571 : x88_3 < (x8_2.length : Int) := yB (by first | (with_reducible assumption) | assumption)
                    obtain ⟨ad571, e571, hx571_0⟩ := Kd.at_int (yM HO_8.out).2.2 x88_3 p571 q571
                    cases e571
                    replace p571 := yg p571
                    replace q571 := yg q571
                    have hcz58_0 : wr.cell? ⟨Z5, 0, none⟩ = some (.int .i64 a2_0) := (zO Z0.out 0).trans rfl
                    have hcz58_1 : wr.cell? ⟨Z5, 1, none⟩ = some (.int .i64 a2_1) := (zO Z0.out 1).trans rfl
                    have hcz58_2 : wr.cell? ⟨Z5, 2, none⟩ = some (.int .i64 a2_2) := (zO Z0.out 2).trans rfl
                    have hfz58_0 := yE Z0.out 0
                    have hfz58_1 := yE Z0.out 1
                    have hfz58_2 := yE Z0.out 2
                    have p572 : 0 ≤ (x88_3 : Int) := yB (by first | (with_reducible assumption) | assumption)
                    have q572 : x88_3 < (x8_2.length : Int) := yB (by first | (with_reducible assumption) | assumption)
                    obtain ⟨ad572, e572, hx572_0⟩ := Kd.at_int (yM HO_8.out).2.2 x88_3 p572 q572
                    obtain rfl : ad571 = ad572 := (by injection e572)
                    replace p572 := yg p572
                    replace q572 := yg q572
                    go_wp2_with (first | (go_at_call 61; (with_reducible refine (r02_Clamp.calls (wrap64 ((rd l0 x88_3) - (wrap64 (a2_1 + (wrap64 ((rd x8_2 x88_3) * a2_2)))))) (-1073741824) 1073741824 t573 _ A55.out).mono ?_); rintro e w' ⟨rfl, ⟨nd, rfl⟩⟩; (try first | exact ⟨rfl, _, World.drewN_drewN _ _ _⟩ | exact ⟨rfl, _, Eq.trans (World.drewN_drewN _ _ _) (congrArg (World.drewN _) (Nat.add_assoc _ _ _))⟩)) | ((with_reducible refine gate_builtin (b := .append) (xs := #[.tmp 110, .tmp 113]) rfl ?_); at_builtin; refine Kd.R_append (Kd.int .i64) (w0 := w) w.heap.size rfl (.tmp 110) (.tmp 113) 36 2 (.int .i64 0) 8 rfl Try.underlying36 info2 rfl (by decide) (by omega) u11 x11_3 t573 [.int .i64 t573] (fun k_ => some k_ ≠ (.slice (some ad571) x8_2.length co57 : Value).ownBlock) (fun _ => False) rfl rfl ?aP (fun _ hk => hk.elim) ?aF ?aO ?aB ?aS ?aL ?_; (case aP => exact rfl); (case aB => exact (by repeat (first | (with_reducible first | exact HB.out | apply zJ | apply zD | apply zE | refine zI ?_ Z1.out) | exact HB.out))); (case aF => exact (fun k_ hk => Kd.fresh' (Kd.R_lt (by (with_reducible repeat (first | apply zL | apply zM | apply zN)); exact HO_8.out)) k_ hk)); (case aO => exact (by (with_reducible repeat (first | apply zL | apply zM | apply zN)); exact HO_11.out)); (case aS => exact (yK (by repeat (first | (with_reducible first | exact HB.out | apply zJ | apply zD | apply zE | refine zI ?_ Z1.out) | exact HB.out)))); (case aL => have := LMc56.out; omega); intro v575 w59 ho hb hg hat; rw [← Ny574.out] at ho; have n0_ := zK (Kd.R_after (ok := (fun _ => True)) (by (with_reducible repeat (first | apply zL | apply zM | apply zN)); exact yd HO_8.out (fun _ hk => ⟨trivial, hk⟩)) hg hat); have n1_ := zK (blk_grown (g := Z5) (o := .cells #[.int .i64 a2_0, .int .i64 a2_1, .int .i64 a2_2] 56 (0, 0)) (by (with_reducible repeat (first | refine zF ?_ _ | refine zH ?_ | refine zG ?_ _)); exact Z0.out) hg (Kd.R_ne HO_11.out Z0.out (by decide))); have n2_ := zK (hb); have n3_ := zK (ho); clear HO_8 Z0 HB HO_11; have HO_8 := n0_; have Z0 := n1_; have HB := n2_; have HO576 := n3_; clear n0_ n1_ n2_ n3_ ho hb hg hat))
                    repeat (go_quiet (first | (go_at_call 61; (with_reducible refine (r02_Clamp.calls (wrap64 ((rd l0 x88_3) - (wrap64 (a2_1 + (wrap64 ((rd x8_2 x88_3) * a2_2)))))) (-1073741824) 1073741824 t573 _ A55.out).mono ?_); rintro e w' ⟨rfl, ⟨nd, rfl⟩⟩; (try first | exact ⟨rfl, _, World.drewN_drewN _ _ _⟩ | exact ⟨rfl, _, Eq.trans (World.drewN_drewN _ _ _) (congrArg (World.drewN _) (Nat.add_assoc _ _ _))⟩)) | ((with_reducible refine gate_builtin (b := .append) (xs := #[.tmp 110, .tmp 113]) rfl ?_); at_builtin; refine Kd.R_append (Kd.int .i64) (w0 := w) w.heap.size rfl (.tmp 110) (.tmp 113) 36 2 (.int .i64 0) 8 rfl Try.underlying36 info2 rfl (by decide) (by omega) u11 x11_3 t573 [.int .i64 t573] (fun k_ => some k_ ≠ (.slice (some ad571) x8_2.length co57 : Value).ownBlock) (fun _ => False) rfl rfl ?aP (fun _ hk => hk.elim) ?aF ?aO ?aB ?aS ?aL ?_; (case aP => exact rfl); (case aB => exact (by repeat (first | (with_reducible first | exact HB.out | apply zJ | apply zD | apply zE | refine zI ?_ Z1.out) | exact HB.out))); (case aF => exact (fun k_ hk => Kd.fresh' (Kd.R_lt (by (with_reducible repeat (first | apply zL | apply zM | apply zN)); exact HO_8.out)) k_ hk)); (case aO => exact (by (with_reducible repeat (first | apply zL | apply zM | apply zN)); exact HO_11.out)); (case aS => exact (yK (by repeat (first | (with_reducible first | exact HB.out | apply zJ | apply zD | apply zE | refine zI ?_ Z1.out) | exact HB.out)))); (case aL => have := LMc56.out; omega); intro v575 w59 ho hb hg hat; rw [← Ny574.out] at ho; have n0_ := zK (Kd.R_after (ok := (fun _ => True)) (by (with_reducible repeat (first | apply zL | apply zM | apply zN)); exact yd HO_8.out (fun _ hk => ⟨trivial, hk⟩)) hg hat); have n1_ := zK (blk_grown (g := Z5) (o := .cells #[.int .i64 a2_0, .int .i64 a2_1, .int .i64 a2_2] 56 (0, 0)) (by (with_reducible repeat (first | refine zF ?_ _ | refine zH ?_ | refine zG ?_ _)); exact Z0.out) hg (Kd.R_ne HO_11.out Z0.out (by decide))); have n2_ := zK (hb); have n3_ := zK (ho); clear HO_8 Z0 HB HO_11; have HO_8 := n0_; have Z0 := n1_; have HB := n2_; have HO576 := n3_; clear n0_ n1_ n2_ n3_ ho hb hg hat)); try go_wp2_with (first | (go_at_call 61; (with_reducible refine (r02_Clamp.calls (wrap64 ((rd l0 x88_3) - (wrap64 (a2_1 + (wrap64 ((rd x8_2 x88_3) * a2_2)))))) (-1073741824) 1073741824 t573 _ A55.out).mono ?_); rintro e w' ⟨rfl, ⟨nd, rfl⟩⟩; (try first | exact ⟨rfl, _, World.drewN_drewN _ _ _⟩ | exact ⟨rfl, _, Eq.trans (World.drewN_drewN _ _ _) (congrArg (World.drewN _) (Nat.add_assoc _ _ _))⟩)) | ((with_reducible refine gate_builtin (b := .append) (xs := #[.tmp 110, .tmp 113]) rfl ?_); at_builtin; refine Kd.R_append (Kd.int .i64) (w0 := w) w.heap.size rfl (.tmp 110) (.tmp 113) 36 2 (.int .i64 0) 8 rfl Try.underlying36 info2 rfl (by decide) (by omega) u11 x11_3 t573 [.int .i64 t573] (fun k_ => some k_ ≠ (.slice (some ad571) x8_2.length co57 : Value).ownBlock) (fun _ => False) rfl rfl ?aP (fun _ hk => hk.elim) ?aF ?aO ?aB ?aS ?aL ?_; (case aP => exact rfl); (case aB => exact (by repeat (first | (with_reducible first | exact HB.out | apply zJ | apply zD | apply zE | refine zI ?_ Z1.out) | exact HB.out))); (case aF => exact (fun k_ hk => Kd.fresh' (Kd.R_lt (by (with_reducible repeat (first | apply zL | apply zM | apply zN)); exact HO_8.out)) k_ hk)); (case aO => exact (by (with_reducible repeat (first | apply zL | apply zM | apply zN)); exact HO_11.out)); (case aS => exact (yK (by repeat (first | (with_reducible first | exact HB.out | apply zJ | apply zD | apply zE | refine zI ?_ Z1.out) | exact HB.out)))); (case aL => have := LMc56.out; omega); intro v575 w59 ho hb hg hat; rw [← Ny574.out] at ho; have n0_ := zK (Kd.R_after (ok := (fun _ => True)) (by (with_reducible repeat (first | apply zL | apply zM | apply zN)); exact yd HO_8.out (fun _ hk => ⟨trivial, hk⟩)) hg hat); have n1_ := zK (blk_grown (g := Z5) (o := .cells #[.int .i64 a2_0, .int .i64 a2_1, .int .i64 a2_2] 56 (0, 0)) (by (with_reducible repeat (first | refine zF ?_ _ | refine zH ?_ | refine zG ?_ _)); exact Z0.out) hg (Kd.R_ne HO_11.out Z0.out (by decide))); have n2_ := zK (hb); have n3_ := zK (ho); clear HO_8 Z0 HB HO_11; have HO_8 := n0_; have Z0 := n1_; have HB := n2_; have HO576 := n3_; clear n0_ n1_ n2_ n3_ ho hb hg hat)))
                    go_roundg k3
                    case measure => have := HJ5.out; have := HK2.out; have := HK3.out; omega
                    case rel => exact ⟨(y574), (wrap64 (x88_3 + 1)), (by first | rfl | (simp; done) | (simp [*]; done)), H', ⟨by have := HJ5.out; have := HK2.out; have := HK3.out; omega⟩, ⟨by (with_reducible repeat (first | apply zL | apply zM | apply zN)); exact yd HO_8.out (fun _ hk => hk.2)⟩, ⟨by (with_reducible repeat (first | apply zL | apply zM | apply zN)); exact HO576.out⟩, ⟨by (with_reducible repeat (first | refine zF ?_ _ | refine zH ?_ | refine zG ?_ _)); exact Z0.out⟩, ⟨by repeat (first | (with_reducible first | exact HB.out | apply zJ | apply zD | apply zE | refine zI ?_ Z1.out) | exact HB.out)⟩⟩
                   ·rw [if_neg c56] at H
                    exact absurd H (by simp)
                  ·rw [if_neg c54] at H
                   have c54b0 : decide (0 < (rd x8_2 x88_3)) = false := yD c54
                   clear c54
                   replace H := yA.mp H
                   obtain ⟨t577, A600, H⟩ := H
                   replace H : (if x11_3.length < 17592186044416 then (r22_Penalise.l1 k3 x8_2 (x11_3 ++ [t577]) l0 (l0.length : Int) (wrap64 (x88_3 + 1)) a2_0 a2_1 a2_2) else (none)) = some (r1, r2) := H
                   have A60 := zK A600
                   clear A600
                   by_cases c61 : x11_3.length < 17592186044416
                   ·rw [if_pos c61] at H
                    have LMc61 := zK c61
                    clear c61
                    obtain ⟨y578, hy578⟩ : ∃ y_ : List Int, y_ = (x11_3 ++ [t577]) := ⟨_, rfl⟩
                    replace H : (r22_Penalise.l1 k3 x8_2 y578 l0 (l0.length : Int) (wrap64 (x88_3 + 1)) a2_0 a2_1 a2_2) = some (r1, r2) := by first | (rw [hy578]; with_reducible exact H) | (have H2_ := (yV _ _).symm.trans H; rw [hy578]; with_reducible exact H2_) | (have H2_ := (yV _ _).symm.trans H; with_reducible exact H2_) | with_reducible exact H | (rw [hy578]; exact H) | exact H
                    have Ny578 := zK hy578
                    clear hy578
                    have H' := zK H
                    clear H
                    have p570 : 0 ≤ (x88_3 : Int) := yB (by first | (with_reducible assumption) | assumption)
                    have q570 : x88_3 < (l0.length : Int) := yB (by first | (with_reducible assumption) | assumption)
                    obtain ⟨ad570, e570, hx570_0⟩ := Kd.at_int HR0.out x88_3 p570 q570
                    cases e570
                    replace hx570_0 := (HB.out.cell (World.block_lt_of_cell? w _ hx570_0)).trans hx570_0
                    replace p570 := yg p570
                    replace q570 := yg q570
                    obtain ⟨Ao62, co62, eo62⟩ := Kd.R_slice HO_8.out
                    subst eo62
                    have p571 : 0 ≤ (x88_3 : Int) := yB (by first | (with_reducible assumption) | assumption)
                    have q571 : x88_3 < (x8_2.length : Int) := yB (by first | (with_reducible assumption) | assumption)
                    obtain ⟨ad571, e571, hx571_0⟩ := Kd.at_int (yM HO_8.out).2.2 x88_3 p571 q571
                    cases e571
                    replace p571 := yg p571
                    replace q571 := yg q571
                    go_wp2_with (first | (go_at_call 61; (with_reducible refine (r02_Clamp.calls (rd l0 x88_3) (-1073741824) 1073741824 t577 _ A60.out).mono ?_); rintro e w' ⟨rfl, ⟨nd, rfl⟩⟩; (try first | exact ⟨rfl, _, World.drewN_drewN _ _ _⟩ | exact ⟨rfl, _, Eq.trans (World.drewN_drewN _ _ _) (congrArg (World.drewN _) (Nat.add_assoc _ _ _))⟩)) | ((with_reducible refine gate_builtin (b := .append) (xs := #[.tmp 110, .tmp 113]) rfl ?_); at_builtin; refine Kd.R_append (Kd.int .i64) (w0 := w) w.heap.size rfl (.tmp 110) (.tmp 113) 36 2 (.int .i64 0) 8 rfl Try.underlying36 info2 rfl (by decide) (by omega) u11 x11_3 t577 [.int .i64 t577] (fun k_ => some k_ ≠ (.slice (some ad571) x8_2.length co62 : Value).ownBlock) (fun _ => False) rfl rfl ?aP (fun _ hk => hk.elim) ?aF ?aO ?aB ?aS ?aL ?_; (case aP => exact rfl); (case aB => exact (by repeat (first | (with_reducible first | exact HB.out | apply zJ | apply zD | apply zE | refine zI ?_ Z1.out) | exact HB.out))); (case aF => exact (fun k_ hk => Kd.fresh' (Kd.R_lt (by (with_reducible repeat (first | apply zL | apply zM | apply zN)); exact HO_8.out)) k_ hk)); (case aO => exact (by (with_reducible repeat (first | apply zL | apply zM | apply zN)); exact HO_11.out)); (case aS => exact (yK (by repeat (first | (with_reducible first | exact HB.out | apply zJ | apply zD | apply zE | refine zI ?_ Z1.out) | exact HB.out)))); (case aL => have := LMc61.out; omega); intro v579 w63 ho hb hg hat; rw [← Ny578.out] at ho; have n0_ := zK (Kd.R_after (ok := (fun _ => True)) (by (with_reducible repeat (first | apply zL | apply zM | apply zN)); exact yd HO_8.out (fun _ hk => ⟨trivial, hk⟩)) hg hat); have n1_ := zK (blk_grown (g := Z5) (o := .cells #[.int .i64 a2_0, .int .i64 a2_1, .int .i64 a2_2] 56 (0, 0)) (by (with_reducible repeat (first | refine zF ?_ _ | refine zH ?_ | refine zG ?_ _)); exact Z0.out) hg (Kd.R_ne HO_11.out Z0.out (by decide))); have n2_ := zK (hb); have n3_ := zK (ho); clear HO_8 Z0 HB HO_11; have HO_8 := n0_; have Z0 := n1_; have HB := n2_; have HO580 := n3_; clear n0_ n1_ n2_ n3_ ho hb hg hat))
                    repeat (go_quiet (first | (go_at_call 61; (with_reducible refine (r02_Clamp.calls (rd l0 x88_3) (-1073741824) 1073741824 t577 _ A60.out).mono ?_); rintro e w' ⟨rfl, ⟨nd, rfl⟩⟩; (try first | exact ⟨rfl, _, World.drewN_drewN _ _ _⟩ | exact ⟨rfl, _, Eq.trans (World.drewN_drewN _ _ _) (congrArg (World.drewN _) (Nat.add_assoc _ _ _))⟩)) | ((with_reducible refine gate_builtin (b := .append) (xs := #[.tmp 110, .tmp 113]) rfl ?_); at_builtin; refine Kd.R_append (Kd.int .i64) (w0 := w) w.heap.size rfl (.tmp 110) (.tmp 113) 36 2 (.int .i64 0) 8 rfl Try.underlying36 info2 rfl (by decide) (by omega) u11 x11_3 t577 [.int .i64 t577] (fun k_ => some k_ ≠ (.slice (some ad571) x8_2.length co62 : Value).ownBlock) (fun _ => False) rfl rfl ?aP (fun _ hk => hk.elim) ?aF ?aO ?aB ?aS ?aL ?_; (case aP => exact rfl); (case aB => exact (by repeat (first | (with_reducible first | exact HB.out | apply zJ | apply zD | apply zE | refine zI ?_ Z1.out) | exact HB.out))); (case aF => exact (fun k_ hk => Kd.fresh' (Kd.R_lt (by (with_reducible repeat (first | apply zL | apply zM | apply zN)); exact HO_8.out)) k_ hk)); (case aO => exact (by (with_reducible repeat (first | apply zL | apply zM | apply zN)); exact HO_11.out)); (case aS => exact (yK (by repeat (first | (with_reducible first | exact HB.out | apply zJ | apply zD | apply zE | refine zI ?_ Z1.out) | exact HB.out)))); (case aL => have := LMc61.out; omega); intro v579 w63 ho hb hg hat; rw [← Ny578.out] at ho; have n0_ := zK (Kd.R_after (ok := (fun _ => True)) (by (with_reducible repeat (first | apply zL | apply zM | apply zN)); exact yd HO_8.out (fun _ hk => ⟨trivial, hk⟩)) hg hat); have n1_ := zK (blk_grown (g := Z5) (o := .cells #[.int .i64 a2_0, .int .i64 a2_1, .int .i64 a2_2] 56 (0, 0)) (by (with_reducible repeat (first | refine zF ?_ _ | refine zH ?_ | refine zG ?_ _)); exact Z0.out) hg (Kd.R_ne HO_11.out Z0.out (by decide))); have n2_ := zK (hb); have n3_ := zK (ho); clear HO_8 Z0 HB HO_11; have HO_8 := n0_; have Z0 := n1_; have HB := n2_; have HO580 := n3_; clear n0_ n1_ n2_ n3_ ho hb hg hat)); try go_wp2_with (first | (go_at_call 61; (with_reducible refine (r02_Clamp.calls (rd l0 x88_3) (-1073741824) 1073741824 t577 _ A60.out).mono ?_); rintro e w' ⟨rfl, ⟨nd, rfl⟩⟩; (try first | exact ⟨rfl, _, World.drewN_drewN _ _ _⟩ | exact ⟨rfl, _, Eq.trans (World.drewN_drewN _ _ _) (congrArg (World.drewN _) (Nat.add_assoc _ _ _))⟩)) | ((with_reducible refine gate_builtin (b := .append) (xs := #[.tmp 110, .tmp 113]) rfl ?_); at_builtin; refine Kd.R_append (Kd.int .i64) (w0 := w) w.heap.size rfl (.tmp 110) (.tmp 113) 36 2 (.int .i64 0) 8 rfl Try.underlying36 info2 rfl (by decide) (by omega) u11 x11_3 t577 [.int .i64 t577] (fun k_ => some k_ ≠ (.slice (some ad571) x8_2.length co62 : Value).ownBlock) (fun _ => False) rfl rfl ?aP (fun _ hk => hk.elim) ?aF ?aO ?aB ?aS ?aL ?_; (case aP => exact rfl); (case aB => exact (by repeat (first | (with_reducible first | exact HB.out | apply zJ | apply zD | apply zE | refine zI ?_ Z1.out) | exact HB.out))); (case aF => exact (fun k_ hk => Kd.fresh' (Kd.R_lt (by (with_reducible repeat (first | apply zL | apply zM | apply zN)); exact HO_8.out)) k_ hk)); (case aO => exact (by (with_reducible repeat (first | apply zL | apply zM | apply zN)); exact HO_11.out)); (case aS => exact (yK (by repeat (first | (with_reducible first | exact HB.out | apply zJ | apply zD | apply zE | refine zI ?_ Z1.out) | exact HB.out)))); (case aL => have := LMc61.out; omega); intro v579 w63 ho hb hg hat; rw [← Ny578.out] at ho; have n0_ := zK (Kd.R_after (ok := (fun _ => True)) (by (with_reducible repeat (first | apply zL | apply zM | apply zN)); exact yd HO_8.out (fun _ hk => ⟨trivial, hk⟩)) hg hat); have n1_ := zK (blk_grown (g := Z5) (o := .cells #[.int .i64 a2_0, .int .i64 a2_1, .int .i64 a2_2] 56 (0, 0)) (by (with_reducible repeat (first | refine zF ?_ _ | refine zH ?_ | refine zG ?_ _)); exact Z0.out) hg (Kd.R_ne HO_11.out Z0.out (by decide))); have n2_ := zK (hb); have n3_ := zK (ho); clear HO_8 Z0 HB HO_11; have HO_8 := n0_; have Z0 := n1_; have HB := n2_; have HO580 := n3_; clear n0_ n1_ n2_ n3_ ho hb hg hat)))
                    go_roundg k3
                    case measure => have := HJ5.out; have := HK2.out; have := HK3.out; omega
                    case rel => exact ⟨(y578), (wrap64 (x88_3 + 1)), (by first | rfl | (simp; done) | (simp [*]; done)), H', ⟨by have := HJ5.out; have := HK2.out; have := HK3.out; omega⟩, ⟨by (with_reducible repeat (first | apply zL | apply zM | apply zN)); exact yd HO_8.out (fun _ hk => hk.2)⟩, ⟨by (with_reducible repeat (first | apply zL | apply zM | apply zN)); exact HO580.out⟩, ⟨by (with_reducible repeat (first | refine zF ?_ _ | refine zH ?_ | refine zG ?_ _)); exact Z0.out⟩, ⟨by repeat (first | (with_reducible first | exact HB.out | apply zJ | apply zD | apply zE | refine zI ?_ Z1.out) | exact HB.out)⟩⟩
                   ·rw [if_neg c61] at H
                    exact absurd H (by simp)
                 ·rw [if_neg c53] at H
                  exact absurd H (by simp)
                ·rw [if_neg c52] at H
                 exact absurd H (by simp)
               ·rw [if_neg c51] at H
                exact absurd H (by simp)
              ·rw [if_neg c50] at H
               have c50b0 : decide (x88_3 < (l0.length : Int)) = false := yD c50
               clear c50
               simp only [yZ, ya] at H
               obtain ⟨rfl, rfl⟩ := H
               go_wp2
               repeat (go_quiet (fail); try go_wp2)
               go_ret2
               exact ⟨_, by first | rfl | (simp [errW_none, errW_some] <;> rfl) | (simp [*, errW_none, errW_some] <;> rfl), by (with_reducible repeat (first | apply zL | apply zM | apply zN)); exact yd HO_11.out (fun _ hk => trivial), by repeat (first | (with_reducible first | exact HB.out | apply zJ | apply zD | apply zE | refine zI ?_ Z1.out) | exact HB.out)⟩
        ·rw [if_neg c22] at H
         exact absurd H (by simp)
       ·rw [if_neg c21] at H
        exact absurd H (by simp)
  ·replace c5 := yh.mpr c5
   subst c5
   have H1 : (some (([] : List Int), 221)) = some (r1, r2) := by rw [if_neg (show ¬ (false = true) by decide)] at H; exact H
   clear H
   have H := H1
   clear H1
   simp only [yZ, ya] at H
   obtain ⟨rfl, rfl⟩ := H
   go_enter Try.func26, Try.ntmps26
   go_wp2_with (first | ((with_reducible refine gate_dst (N := 5) rfl ?_); refine box_event ?hg (N := 5) ?hd (cs := #[.int .i64 a2_0, .int .i64 a2_1, .int .i64 a2_2]) (t := 56) ?hr ?_; (case hd => rfl); (case hg => rfl); (case hr => first | (go_simp; done) | (go_simp; rfl)); intro Z5 hg w64 hbox hb; have n0_ := zK (yL (by repeat (first | (with_reducible first | exact HB.out | apply zJ | apply zD | apply zE) | exact HB.out)) hb); have n1_ := zK (hbox); have n2_ := zK ((by rw [hg]; exact (yK (by repeat (first | (with_reducible first | exact HB.out | apply zJ | apply zD | apply zE) | exact HB.out))) : w.heap.size ≤ Z5)); have n3_ := zK ((by rw [hg]; exact (yK (by repeat (first | (with_reducible first | exact HB.out | apply zJ | apply zD | apply zE) | exact HB.out))) : w.heap.size ≤ Z5)); clear HB; have HB := n0_; have Z0 := n1_; have Z2 := n2_; have Z1 := n3_; clear n0_ n1_ n2_ n3_ hb hbox hg) | (go_at_call 60; (with_reducible refine (r22_all.calls k _ _ l0 false _ ?side1 ?side2 A4.out).mono ?_); (case side1 => repeat (first | exact (yc HR0.out HB.out) | (with_reducible refine yS ?_ _) | (with_reducible refine yT ?_ _) | (with_reducible refine yU ?_))); (case side2 => exact HC0.out); rintro e w' ⟨rfl, ⟨nd, rfl⟩⟩; (try first | exact ⟨rfl, _, World.drewN_drewN _ _ _⟩ | exact ⟨rfl, _, Eq.trans (World.drewN_drewN _ _ _) (congrArg (World.drewN _) (Nat.add_assoc _ _ _))⟩)))
   repeat (go_quiet (first | ((with_reducible refine gate_dst (N := 5) rfl ?_); refine box_event ?hg (N := 5) ?hd (cs := #[.int .i64 a2_0, .int .i64 a2_1, .int .i64 a2_2]) (t := 56) ?hr ?_; (case hd => rfl); (case hg => rfl); (case hr => first | (go_simp; done) | (go_simp; rfl)); intro Z5 hg w64 hbox hb; have n0_ := zK (yL (by repeat (first | (with_reducible first | exact HB.out | apply zJ | apply zD | apply zE) | exact HB.out)) hb); have n1_ := zK (hbox); have n2_ := zK ((by rw [hg]; exact (yK (by repeat (first | (with_reducible first | exact HB.out | apply zJ | apply zD | apply zE) | exact HB.out))) : w.heap.size ≤ Z5)); have n3_ := zK ((by rw [hg]; exact (yK (by repeat (first | (with_reducible first | exact HB.out | apply zJ | apply zD | apply zE) | exact HB.out))) : w.heap.size ≤ Z5)); clear HB; have HB := n0_; have Z0 := n1_; have Z2 := n2_; have Z1 := n3_; clear n0_ n1_ n2_ n3_ hb hbox hg) | (go_at_call 60; (with_reducible refine (r22_all.calls k _ _ l0 false _ ?side1 ?side2 A4.out).mono ?_); (case side1 => repeat (first | exact (yc HR0.out HB.out) | (with_reducible refine yS ?_ _) | (with_reducible refine yT ?_ _) | (with_reducible refine yU ?_))); (case side2 => exact HC0.out); rintro e w' ⟨rfl, ⟨nd, rfl⟩⟩; (try first | exact ⟨rfl, _, World.drewN_drewN _ _ _⟩ | exact ⟨rfl, _, Eq.trans (World.drewN_drewN _ _ _) (congrArg (World.drewN _) (Nat.add_assoc _ _ _))⟩))); try go_wp2_with (first | ((with_reducible refine gate_dst (N := 5) rfl ?_); refine box_event ?hg (N := 5) ?hd (cs := #[.int .i64 a2_0, .int .i64 a2_1, .int .i64 a2_2]) (t := 56) ?hr ?_; (case hd => rfl); (case hg => rfl); (case hr => first | (go_simp; done) | (go_simp; rfl)); intro Z5 hg w64 hbox hb; have n0_ := zK (yL (by repeat (first | (with_reducible first | exact HB.out | apply zJ | apply zD | apply zE) | exact HB.out)) hb); have n1_ := zK (hbox); have n2_ := zK ((by rw [hg]; exact (yK (by repeat (first | (with_reducible first | exact HB.out | apply zJ | apply zD | apply zE) | exact HB.out))) : w.heap.size ≤ Z5)); have n3_ := zK ((by rw [hg]; exact (yK (by repeat (first | (with_reducible first | exact HB.out | apply zJ | apply zD | apply zE) | exact HB.out))) : w.heap.size ≤ Z5)); clear HB; have HB := n0_; have Z0 := n1_; have Z2 := n2_; have Z1 := n3_; clear n0_ n1_ n2_ n3_ hb hbox hg) | (go_at_call 60; (with_reducible refine (r22_all.calls k _ _ l0 false _ ?side1 ?side2 A4.out).mono ?_); (case side1 => repeat (first | exact (yc HR0.out HB.out) | (with_reducible refine yS ?_ _) | (with_reducible refine yT ?_ _) | (with_reducible refine yU ?_))); (case side2 => exact HC0.out); rintro e w' ⟨rfl, ⟨nd, rfl⟩⟩; (try first | exact ⟨rfl, _, World.drewN_drewN _ _ _⟩ | exact ⟨rfl, _, Eq.trans (World.drewN_drewN _ _ _) (congrArg (World.drewN _) (Nat.add_assoc _ _ _))⟩))))
   go_ret2
   exact ⟨_, by first | rfl | (simp [errW_none, errW_some] <;> rfl) | (simp [*, errW_none, errW_some] <;> rfl), by first | exact Kd.R_nil _ _ _ _ _ | exact Kd.N_nil _ _ _ _ _ | exact Kd.V_nil _ _ _ _ _ | exact Kd.Q_nil _ _ _ _ _ | exact Kd.S_nil _ _ _ _ _, by repeat (first | (with_reducible first | exact HB.out | apply zJ | apply zD | apply zE | refine zI ?_ Z1.out) | exact HB.out)⟩

end Go.Proofs.Ythmckhfjaleomaa.T
