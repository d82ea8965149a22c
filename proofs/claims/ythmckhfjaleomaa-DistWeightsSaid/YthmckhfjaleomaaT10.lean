-- Printed by this session's own driver (wip/tools/xprint.py) over the kit's printer; given functions are this session's own.
import Derived.Test.YthmckhfjaleomaaT0
import Derived.Test.YthmckhfjaleomaaT7
namespace Go.Proofs.Ythmckhfjaleomaa.T
open Go.RowKit Go.Proofs.YthmckhfjaleomaaW.PrintWords Go.Proofs.YthmckhfjaleomaaW.PrintLast Go.Proofs.YthmckhfjaleomaaW.PrintMore
attribute [local go_sem] max2_int min2_int max_two min_two max_three min_three max_four min_four   -- for this text's walks alone
set_option linter.unusedVariables false
set_option linter.unusedSimpArgs false

/-! ### r22_may: function 47 -/
def r22_may.f (l0 : List Bool) (a1 : Int) : Option (Bool) := if (l0.length : Int) = 0 then (some true) else (if 0 ≤ a1 then (if a1 < (l0.length : Int) then (some (rdOf false l0 a1)) else (none)) else (none))
set_option maxHeartbeats 8000000 in
set_option maxRecDepth 100000 in
theorem r22_may.calls (A0 : Option Addr) (c0 : Nat) (l0 : List Bool) (a1 : Int) (r : Bool) (w : World) (hr0 : Kd.C Kd.bool w A0 l0.length l0) (hc0 : l0.length ≤ c0) (h : r22_may.f l0 a1 = some r) :
    Calls Try.prog 47 #[.slice A0 l0.length c0, .int .i64 a1] w fun e w' => e = .returned (.bool r) ∧ Drawn0 w w' := by
  have HR0 := zK hr0
  have HC0 := zK hc0
  clear hr0 hc0
  have H : (if (l0.length : Int) = 0 then (some true) else (if 0 ≤ a1 then (if a1 < (l0.length : Int) then (some (rdOf false l0 a1)) else (none)) else (none))) = some r := h
  clear h
  by_cases c3 : (l0.length : Int) = 0
  ·rw [if_pos c3] at H
   have c3b0 : ((l0.length : Int) == 0) = true := beq_iff_eq.mpr c3
   have c3b1 : ((l0.length : Int) != 0) = false := bne_eq_false_iff_eq.mpr c3
   clear c3
   obtain rfl := yY H
   go_enter Try.func47, Try.ntmps47
   go_wp2
   go_ret
   exact ⟨by first | rfl | (simp; done) | (simp [*]; done), by repeat (first | exact Drawn0.refl _ | apply Drawn0.step)⟩
  ·rw [if_neg c3] at H
   have c3b0 : ((l0.length : Int) == 0) = false := beq_eq_false_iff_ne.mpr c3
   have c3b1 : ((l0.length : Int) != 0) = true := bne_iff_ne.mpr c3
   have c3b2 : ¬ (l0 = []) := fun h_ => c3 (by rw [h_]; rfl)
   by_cases c4 : 0 ≤ a1
   ·rw [if_pos c4] at H
    have c4b0 : decide (0 ≤ a1) = true := yC c4
    clear c4
    by_cases c5 : a1 < (l0.length : Int)
    ·rw [if_pos c5] at H
     have c5b0 : decide (a1 < (l0.length : Int)) = true := yC c5
     clear c5
     obtain rfl := yY H
     have p240 : 0 ≤ (a1 : Int) := yB (by first | (with_reducible assumption) | assumption)
     have q240 : a1 < (l0.length : Int) := yB (by first | (with_reducible assumption) | assumption)
     obtain ⟨ad240, e240, hx240_0⟩ := Kd.at_bool HR0.out a1 p240 q240
     cases e240
     replace p240 := yg p240
     replace q240 := yg q240
     go_enter Try.func47, Try.ntmps47
     go_wp2
     go_ret
     exact ⟨by first | rfl | (simp; done) | (simp [*]; done), by repeat (first | exact Drawn0.refl _ | apply Drawn0.step)⟩
    ·rw [if_neg c5] at H
     exact absurd H (by simp)
   ·rw [if_neg c4] at H
    exact absurd H (by simp)

/-! ### r22_wrong: function 46 -/
mutual
def r22_wrong.j0 : Nat → List Int → List Bool → Bool → Int → Int → Int → Int → Int → List (S74) → Option (Int)
  | 0, _, _, _, _, _, _, _, _, _ => none
  | k + 1, x0, x1, x17, Y0, Y1, Y2, Y3, Y4, Y5 => if x17 = true then (some 221) else (r22_wrong.l0 k x0 x1 x0 (x0.length : Int) 0 Y0 Y1 Y2 Y3 Y4 Y5)
def r22_wrong.l0 : Nat → List Int → List Bool → List Int → Int → Int → Int → Int → Int → Int → Int → List (S74) → Option (Int)
  | 0, _, _, _, _, _, _, _, _, _, _, _ => none
  | k + 1, x0, x1, x18, x19, x20, Y0, Y1, Y2, Y3, Y4, Y5 => if x20 < x19 then (if 0 ≤ x20 then (if x20 < (x18.length : Int) then (if (rd x18 x20) < (-1073741824) then (some 221) else (if (rd x18 x20) > 1073741824 then (some 221) else (r22_wrong.l0 k x0 x1 x18 x19 (wrap64 (x20 + 1)) Y0 Y1 Y2 Y3 Y4 Y5))) else (none)) else (none)) else ((r22_Check.f k Y0 Y1 Y2 Y3 Y4 Y5 (x0.length : Int)).bind fun t243 => (if t243 = 0 then (if (x1.length : Int) = 0 then (r22_wrong.j2 k x0 x1 false) else (r22_wrong.j2 k x0 x1 ((x1.length : Int) != (x0.length : Int)))) else (some 220)))
def r22_wrong.j2 : Nat → List Int → List Bool → Bool → Option (Int)
  | 0, _, _, _ => none
  | k + 1, x0, x1, x45 => if x45 = true then (some 222) else (r22_wrong.l1 k x1 (x0.length : Int) 0)
def r22_wrong.l1 : Nat → List Bool → Int → Int → Option (Int)
  | 0, _, _, _ => none
  | k + 1, x1, x47, x48 => if x48 < x47 then ((r22_may.f x1 x48).bind fun t244 => (if t244 = true then (some 0) else (r22_wrong.l1 k x1 x47 (wrap64 (x48 + 1))))) else (some 223)
end
def r22_wrong.f (k : Nat) (l0 : List Int) (l1 : List Bool) (a2_0 : Int) (a2_1 : Int) (a2_2 : Int) (a2_3 : Int) (a2_4 : Int) (l2_5 : List (S74)) : Option (Int) := if (l0.length : Int) = 0 then (r22_wrong.j0 k l0 l1 true a2_0 a2_1 a2_2 a2_3 a2_4 l2_5) else (r22_wrong.j0 k l0 l1 (decide ((l0.length : Int) > 512)) a2_0 a2_1 a2_2 a2_3 a2_4 l2_5)
theorem r22_wrong.mono_l : ∀ k, (∀ y0 y1 y2 y3 y4 y5 y6 y7 y8, LeO (r22_wrong.j0 k y0 y1 y2 y3 y4 y5 y6 y7 y8) (r22_wrong.j0 (k + 1) y0 y1 y2 y3 y4 y5 y6 y7 y8)) ∧ (∀ y0 y1 y2 y3 y4 y5 y6 y7 y8 y9 y10, LeO (r22_wrong.l0 k y0 y1 y2 y3 y4 y5 y6 y7 y8 y9 y10) (r22_wrong.l0 (k + 1) y0 y1 y2 y3 y4 y5 y6 y7 y8 y9 y10)) ∧ (∀ y0 y1 y2, LeO (r22_wrong.j2 k y0 y1 y2) (r22_wrong.j2 (k + 1) y0 y1 y2)) ∧ (∀ y0 y1 y2, LeO (r22_wrong.l1 k y0 y1 y2) (r22_wrong.l1 (k + 1) y0 y1 y2))
  | 0 => ⟨fun _ _ _ _ _ _ _ _ _ r h => by simp [r22_wrong.j0] at h, fun _ _ _ _ _ _ _ _ _ _ _ r h => by simp [r22_wrong.l0] at h, fun _ _ _ r h => by simp [r22_wrong.j2] at h, fun _ _ _ r h => by simp [r22_wrong.l1] at h⟩
  | k + 1 => by
    obtain ⟨ih0, ih1, ih2, ih3⟩ := r22_wrong.mono_l k
    refine ⟨?_, ?_, ?_, ?_⟩ <;> (intros; first | unfold r22_wrong.j0 | unfold r22_wrong.l0 | unfold r22_wrong.j2 | unfold r22_wrong.l1)
    all_goals repeat' first
      | (with_reducible exact ih0 _ _ _ _ _ _ _ _ _)
      | (with_reducible exact ih1 _ _ _ _ _ _ _ _ _ _ _)
      | (with_reducible exact ih2 _ _ _)
      | (with_reducible exact ih3 _ _ _)
      | (with_reducible exact r22_Check.mono _ _ _ _ _ _ _ _)
      | (with_reducible exact yR _)
      | (with_reducible exact yO _)
      | (with_reducible refine yQ ?_ ?_)
      | (with_reducible refine yP ?_ (fun _ => ?_))
      | exact ih0 _ _ _ _ _ _ _ _ _
      | exact ih1 _ _ _ _ _ _ _ _ _ _ _
      | exact ih2 _ _ _
      | exact ih3 _ _ _
      | exact r22_Check.mono _ _ _ _ _ _ _ _
      | exact yO _
      | refine yQ ?_ ?_
      | refine yP ?_ (fun _ => ?_)
theorem r22_wrong.mono : ∀ a0 a1 a2 a3 a4 a5 a6 a7 k, LeO (r22_wrong.f k a0 a1 a2 a3 a4 a5 a6 a7) (r22_wrong.f (k + 1) a0 a1 a2 a3 a4 a5 a6 a7) := by
  intro a0 a1 a2 a3 a4 a5 a6 a7 k
  obtain ⟨ih0, ih1, ih2, ih3⟩ := r22_wrong.mono_l k
  unfold r22_wrong.f
  repeat' first
      | (with_reducible exact ih0 _ _ _ _ _ _ _ _ _)
      | (with_reducible exact ih1 _ _ _ _ _ _ _ _ _ _ _)
      | (with_reducible exact ih2 _ _ _)
      | (with_reducible exact ih3 _ _ _)
      | (with_reducible exact r22_Check.mono _ _ _ _ _ _ _ _)
      | (with_reducible exact yR _)
      | (with_reducible exact yO _)
      | (with_reducible refine yQ ?_ ?_)
      | (with_reducible refine yP ?_ (fun _ => ?_))
      | exact ih0 _ _ _ _ _ _ _ _ _
      | exact ih1 _ _ _ _ _ _ _ _ _ _ _
      | exact ih2 _ _ _
      | exact ih3 _ _ _
      | exact r22_Check.mono _ _ _ _ _ _ _ _
      | exact yO _
      | refine yQ ?_ ?_
      | refine yP ?_ (fun _ => ?_)
set_option maxHeartbeats 8000000 in
set_option maxRecDepth 100000 in
theorem r22_wrong.calls (k : Nat) (A0 : Option Addr) (c0 : Nat) (l0 : List Int) (A1 : Option Addr) (c1 : Nat) (l1 : List Bool) (a2_0 : Int) (a2_1 : Int) (a2_2 : Int) (a2_3 : Int) (a2_4 : Int) (A2_5 : Option Addr) (c2_5 : Nat) (l2_5 : List (S74)) (r : Int) (w : World) (hr0 : Kd.C (Kd.int .i64) w A0 l0.length l0) (hc0 : l0.length ≤ c0) (hr1 : Kd.C Kd.bool w A1 l1.length l1) (hc1 : l1.length ≤ c1) (hr2_5 : Kd.C k74 w A2_5 l2_5.length l2_5) (hc2_5 : l2_5.length ≤ c2_5) (h : r22_wrong.f k l0 l1 a2_0 a2_1 a2_2 a2_3 a2_4 l2_5 = some r) :
    Calls Try.prog 46 #[.slice A0 l0.length c0, .slice A1 l1.length c1, .agg #[.int .i64 a2_0, .int .i64 a2_1, .int .i64 a2_2, .int .i64 a2_3, .int .i64 a2_4, .slice A2_5 l2_5.length c2_5]] w fun e w' => e = .returned (.int .i64 r) ∧ Below w.heap.size w w' := by
  have hu31 := Try.underlying31
  have HR0 := zK hr0
  have HC0 := zK hc0
  clear hr0 hc0
  have HR1 := zK hr1
  have HC1 := zK hc1
  clear hr1 hc1
  have HR2_5 := zK hr2_5
  have HC2_5 := zK hc2_5
  clear hr2_5 hc2_5
  have HB := zK (Below.refl w.heap.size w)
  have H : (if (l0.length : Int) = 0 then (r22_wrong.j0 k l0 l1 true a2_0 a2_1 a2_2 a2_3 a2_4 l2_5) else (r22_wrong.j0 k l0 l1 (decide ((l0.length : Int) > 512)) a2_0 a2_1 a2_2 a2_3 a2_4 l2_5)) = some r := h
  clear h
  have HC4 := zK H
  clear H
  go_enter Try.func46, Try.ntmps46
  go_upto_region 1 with (first | ((with_reducible refine gate_dst (N := 5) rfl ?_); refine box_event ?hg (N := 5) ?hd (cs := #[.int .i64 a2_0, .int .i64 a2_1, .int .i64 a2_2, .int .i64 a2_3, .int .i64 a2_4, .slice A2_5 l2_5.length c2_5]) (t := 31) ?hr ?_; (case hd => rfl); (case hg => rfl); (case hr => first | (go_simp; done) | (go_simp; rfl)); intro Z4 hg w5 hbox hb; have n0_ := zK (yL (by repeat (first | (with_reducible first | exact HB.out | apply zJ | apply zD | apply zE) | exact HB.out)) hb); have n1_ := zK (hbox); have n2_ := zK ((by rw [hg]; exact (yK (by repeat (first | (with_reducible first | exact HB.out | apply zJ | apply zD | apply zE) | exact HB.out))) : w.heap.size ≤ Z4)); have n3_ := zK ((by rw [hg]; exact (yK (by repeat (first | (with_reducible first | exact HB.out | apply zJ | apply zD | apply zE) | exact HB.out))) : w.heap.size ≤ Z4)); clear HB; have HB := n0_; have Z0 := n1_; have Z2 := n2_; have Z1 := n3_; clear n0_ n1_ n2_ n3_ hb hbox hg))
  (try simp only [Act.put, zA, zB, zC])
  go_cut [17] (fun v17 wc => ∃ (kq : Nat) (x17_3 : Bool), v17 = .bool x17_3 ∧ Aside0 (r22_wrong.j0 kq l0 l1 x17_3 a2_0 a2_1 a2_2 a2_3 a2_4 l2_5 = some r) ∧ Aside0 (kq ≤ k) ∧ Aside0 (wc.heap[Z4]? = some (.cells #[.int .i64 a2_0, .int .i64 a2_1, .int .i64 a2_2, .int .i64 a2_3, .int .i64 a2_4, (.slice A2_5 l2_5.length c2_5)] 31 (0, 0))) ∧ Aside0 (Below w.heap.size w wc))
  case first =>
   have H := HC4.out
   clear HC4
   by_cases c6 : (l0.length : Int) = 0
   ·rw [if_pos c6] at H
    have c6b0 : ((l0.length : Int) == 0) = true := beq_iff_eq.mpr c6
    have c6b1 : ((l0.length : Int) != 0) = false := bne_eq_false_iff_eq.mpr c6
    clear c6
    (first | rw [c6b0] | (simp only [i64_w, i32_w]; rw [c6b0]) | skip)
    have H' := zK H
    clear H
    go_wp2
    go_meet
    case rel => exact ⟨_, (true), (by first | rfl | (simp; done) | (simp [*]; done)), H', ⟨by first | omega | exact yN _⟩, ⟨by (with_reducible repeat (first | refine zF ?_ _ | refine zH ?_ | refine zG ?_ _)); exact Z0.out⟩, ⟨by repeat (first | (with_reducible first | exact HB.out | apply zJ | apply zD | apply zE | refine zI ?_ Z1.out) | exact HB.out)⟩⟩
   ·rw [if_neg c6] at H
    have c6b0 : ((l0.length : Int) == 0) = false := beq_eq_false_iff_ne.mpr c6
    have c6b1 : ((l0.length : Int) != 0) = true := bne_iff_ne.mpr c6
    have c6b2 : ¬ (l0 = []) := fun h_ => c6 (by rw [h_]; rfl)
    (first | rw [c6b0] | (simp only [i64_w, i32_w]; rw [c6b0]) | skip)
    have H' := zK H
    clear H
    go_wp2
    go_meet
    case rel => exact ⟨_, (decide ((l0.length : Int) > 512)), (by first | rfl | (simp; done) | (simp [*]; done)), H', ⟨by first | omega | exact yN _⟩, ⟨by (with_reducible repeat (first | refine zF ?_ _ | refine zH ?_ | refine zG ?_ _)); exact Z0.out⟩, ⟨by repeat (first | (with_reducible first | exact HB.out | apply zJ | apply zD | apply zE | refine zI ?_ Z1.out) | exact HB.out)⟩⟩
  case rest =>
   clear HC4
   try clear c1
   try clear c2
   try clear p2
   try clear c4
   try clear c6
   try clear c6b0
   try clear c6b1
   try clear c6b2
   obtain ⟨kq, x17_3, rfl, HA, HJ3, Z0, HB⟩ := hcut
   cases kq with
   | zero => exact absurd HA.out (by simp [r22_wrong.j0])
   | succ kj3 =>
    have H := HA.out
    clear HA
    simp only [r22_wrong.j0] at H
    by_cases c7 : x17_3 = true
    ·subst c7
     have H1 : (some 221) = some r := by rw [if_pos rfl] at H; exact H
     clear H
     have H := H1
     clear H1
     obtain rfl := yY H
     go_wp2
     go_ret
     exact ⟨by first | rfl | (simp [errW_none, errW_some] <;> rfl) | (simp [*, errW_none, errW_some] <;> rfl), by repeat (first | (with_reducible first | exact HB.out | apply zJ | apply zD | apply zE | refine zI ?_ Z1.out) | exact HB.out)⟩
    ·replace c7 := yh.mpr c7
     subst c7
     have H1 : (r22_wrong.l0 kj3 l0 l1 l0 (l0.length : Int) 0 a2_0 a2_1 a2_2 a2_3 a2_4 l2_5) = some r := by rw [if_neg (show ¬ (false = true) by decide)] at H; exact H
     clear H
     have H := H1
     clear H1
     have H' := zK H
     clear H
     go_wp2
     go_loopg [20] kj3 (fun kq v20 w' => ∃ (x20_2 : Int), v20 = .int .i64 x20_2 ∧ Aside0 (r22_wrong.l0 kq l0 l1 l0 (l0.length : Int) x20_2 a2_0 a2_1 a2_2 a2_3 a2_4 l2_5 = some r) ∧ Aside0 (kq ≤ kj3) ∧ Aside0 (w'.heap[Z4]? = some (.cells #[.int .i64 a2_0, .int .i64 a2_1, .int .i64 a2_2, .int .i64 a2_3, .int .i64 a2_4, (.slice A2_5 l2_5.length c2_5)] 31 (0, 0))) ∧ Aside0 (Below w.heap.size w w'))
     case atStart => exact ⟨(0), (by first | rfl | (simp; done) | (simp [*]; done)), H', ⟨yN _⟩, ⟨by (with_reducible repeat (first | refine zF ?_ _ | refine zH ?_ | refine zG ?_ _)); exact Z0.out⟩, ⟨by repeat (first | (with_reducible first | exact HB.out | apply zJ | apply zD | apply zE | refine zI ?_ Z1.out) | exact HB.out)⟩⟩
     case round =>
      clear H'
      try clear c1
      try clear c2
      try clear p2
      try clear c4
      try clear c6
      try clear c6b0
      try clear c6b1
      try clear c6b2
      try clear c7
      try clear p2
      obtain ⟨x20_2, rfl, HA, HK2, Z0, HB⟩ := hrel
      cases gk with
      | zero => exact absurd HA.out (by simp [r22_wrong.l0])
      | succ k2 =>
       have H := HA.out
       clear HA
       simp only [r22_wrong.l0] at H
       by_cases c8 : x20_2 < (l0.length : Int)
       ·rw [if_pos c8] at H
        have c8b0 : decide (x20_2 < (l0.length : Int)) = true := yC c8
        clear c8
        by_cases c9 : 0 ≤ x20_2
        ·rw [if_pos c9] at H
         have c9b0 : decide (0 ≤ x20_2) = true := yC c9
         clear c9
         by_cases c10 : x20_2 < (l0.length : Int)
         ·rw [if_pos c10] at H
          have c10b0 : decide (x20_2 < (l0.length : Int)) = true := yC c10
          clear c10
          by_cases c11 : (rd l0 x20_2) < (-1073741824)
          ·rw [if_pos c11] at H
           have c11b0 : decide ((rd l0 x20_2) < (-1073741824)) = true := yC c11
           clear c11
           obtain rfl := yY H
           have p242 : 0 ≤ (x20_2 : Int) := yB (by first | (with_reducible assumption) | assumption)
           have q242 : x20_2 < (l0.length : Int) := yB (by first | (with_reducible assumption) | assumption)
           obtain ⟨ad242, e242, hx242_0⟩ := Kd.at_int HR0.out x20_2 p242 q242
           cases e242
           replace hx242_0 := (HB.out.cell (World.block_lt_of_cell? w _ hx242_0)).trans hx242_0
           replace p242 := yg p242
           replace q242 := yg q242
           go_wp2
           go_ret
           exact ⟨by first | rfl | (simp [errW_none, errW_some] <;> rfl) | (simp [*, errW_none, errW_some] <;> rfl), by repeat (first | (with_reducible first | exact HB.out | apply zJ | apply zD | apply zE | refine zI ?_ Z1.out) | exact HB.out)⟩
          ·rw [if_neg c11] at H
           have c11b0 : decide ((rd l0 x20_2) < (-1073741824)) = false := yD c11
           clear c11
           by_cases c12 : (rd l0 x20_2) > 1073741824
           ·rw [if_pos c12] at H
            have c12b0 : decide (1073741824 < (rd l0 x20_2)) = true := yC c12
            clear c12
            obtain rfl := yY H
            have p242 : 0 ≤ (x20_2 : Int) := yB (by first | (with_reducible assumption) | assumption)
            have q242 : x20_2 < (l0.length : Int) := yB (by first | (with_reducible assumption) | assumption)
            obtain ⟨ad242, e242, hx242_0⟩ := Kd.at_int HR0.out x20_2 p242 q242
            cases e242
            replace hx242_0 := (HB.out.cell (World.block_lt_of_cell? w _ hx242_0)).trans hx242_0
            replace p242 := yg p242
            replace q242 := yg q242
            go_wp2
            go_ret
            exact ⟨by first | rfl | (simp [errW_none, errW_some] <;> rfl) | (simp [*, errW_none, errW_some] <;> rfl), by repeat (first | (with_reducible first | exact HB.out | apply zJ | apply zD | apply zE | refine zI ?_ Z1.out) | exact HB.out)⟩
           ·rw [if_neg c12] at H
            have c12b0 : decide (1073741824 < (rd l0 x20_2)) = false := yD c12
            clear c12
            have H' := zK H
            clear H
            have p242 : 0 ≤ (x20_2 : Int) := yB (by first | (with_reducible assumption) | assumption)
            have q242 : x20_2 < (l0.length : Int) := yB (by first | (with_reducible assumption) | assumption)
            obtain ⟨ad242, e242, hx242_0⟩ := Kd.at_int HR0.out x20_2 p242 q242
            cases e242
            replace hx242_0 := (HB.out.cell (World.block_lt_of_cell? w _ hx242_0)).trans hx242_0
            replace p242 := yg p242
            replace q242 := yg q242
            go_wp2
            go_roundg k2
            case measure => have := HJ3.out; have := HK2.out; omega
            case rel => exact ⟨(wrap64 (x20_2 + 1)), (by first | rfl | (simp; done) | (simp [*]; done)), H', ⟨by have := HJ3.out; have := HK2.out; omega⟩, ⟨by (with_reducible repeat (first | refine zF ?_ _ | refine zH ?_ | refine zG ?_ _)); exact Z0.out⟩, ⟨by repeat (first | (with_reducible first | exact HB.out | apply zJ | apply zD | apply zE | refine zI ?_ Z1.out) | exact HB.out)⟩⟩
         ·rw [if_neg c10] at H
          exact absurd H (by simp)
        ·rw [if_neg c9] at H
         exact absurd H (by simp)
       ·rw [if_neg c8] at H
        have c8b0 : decide (x20_2 < (l0.length : Int)) = false := yD c8
        clear c8
        replace H := yA.mp H
        obtain ⟨t243, A130, H⟩ := H
        replace H : (if t243 = 0 then (if (l1.length : Int) = 0 then (r22_wrong.j2 k2 l0 l1 false) else (r22_wrong.j2 k2 l0 l1 ((l1.length : Int) != (l0.length : Int)))) else (some 220)) = some r := H
        have A13 := zK A130
        clear A130
        by_cases c14 : t243 = 0
        ·rw [if_pos c14] at H
         have c14b0 : (t243 == 0) = true := beq_iff_eq.mpr c14
         have c14b1 : (t243 != 0) = false := bne_eq_false_iff_eq.mpr c14
         clear c14
         have HC15 := zK H
         clear H
         have hcz16_0 : wr.cell? ⟨Z4, 0, none⟩ = some (.int .i64 a2_0) := (zO Z0.out 0).trans rfl
         have hcz16_1 : wr.cell? ⟨Z4, 1, none⟩ = some (.int .i64 a2_1) := (zO Z0.out 1).trans rfl
         have hcz16_2 : wr.cell? ⟨Z4, 2, none⟩ = some (.int .i64 a2_2) := (zO Z0.out 2).trans rfl
         have hcz16_3 : wr.cell? ⟨Z4, 3, none⟩ = some (.int .i64 a2_3) := (zO Z0.out 3).trans rfl
         have hcz16_4 : wr.cell? ⟨Z4, 4, none⟩ = some (.int .i64 a2_4) := (zO Z0.out 4).trans rfl
         have hcz16_5 : wr.cell? ⟨Z4, 5, none⟩ = some (.slice A2_5 l2_5.length c2_5) := (zO Z0.out 5).trans rfl
         have hfz16_0 := yE Z0.out 0
         have hfz16_1 := yE Z0.out 1
         have hfz16_2 := yE Z0.out 2
         have hfz16_3 := yE Z0.out 3
         have hfz16_4 := yE Z0.out 4
         have hfz16_5 := yE Z0.out 5
         go_upto_region 11 with (first | ((with_reducible refine gate_callee (f := 15) rfl ?_); refine goesL_ (some 34) rfl rfl Try.func15 (by kernel_rfl) rfl #[.agg #[.int .i64 a2_0, .int .i64 a2_1, .int .i64 a2_2, .int .i64 a2_3, .int .i64 a2_4, .slice A2_5 l2_5.length c2_5], .int .i64 (l0.length : Int)] rfl (by (try simp only [yH, yI, yJ]); first | done | rfl | (simp only [yG, yF]; rfl)) ?_; (with_reducible refine (r22_Check.calls k2 a2_0 a2_1 a2_2 a2_3 a2_4 _ _ l2_5 (l0.length : Int) t243 _ ?side1 ?side2 A13.out).mono ?_); (case side1 => repeat (first | exact (yc HR2_5.out HB.out) | (with_reducible refine yS ?_ _) | (with_reducible refine yT ?_ _) | (with_reducible refine yU ?_))); (case side2 => exact HC2_5.out); rintro e w17 ⟨rfl, hb⟩; refine ⟨_, rfl, ?_⟩; have n0_ := zK (zP (g := Z4) (o := .cells #[.int .i64 a2_0, .int .i64 a2_1, .int .i64 a2_2, .int .i64 a2_3, .int .i64 a2_4, .slice A2_5 l2_5.length c2_5] 31 (0, 0)) (by (with_reducible repeat (first | refine zF ?_ _ | refine zH ?_ | refine zG ?_ _)); exact Z0.out) hb); have n1_ := zK (yL (by repeat (first | (with_reducible first | exact HB.out | apply zJ | apply zD | apply zE | refine zI ?_ Z1.out) | exact HB.out)) hb); clear Z0 HB; have Z0 := n0_; have HB := n1_; clear n0_ n1_; (try clear hb); (try clear hb2); (try clear hk); (try clear hi)))
         (try simp only [Act.put, zA, zB, zC])
         go_cut [45] (fun v45 wc => ∃ (kq : Nat) (x45_14 : Bool), v45 = .bool x45_14 ∧ Aside0 (r22_wrong.j2 kq l0 l1 x45_14 = some r) ∧ Aside0 (kq ≤ k2) ∧ Aside0 (wc.heap[Z4]? = some (.cells #[.int .i64 a2_0, .int .i64 a2_1, .int .i64 a2_2, .int .i64 a2_3, .int .i64 a2_4, (.slice A2_5 l2_5.length c2_5)] 31 (0, 0))) ∧ Aside0 (Below w.heap.size w wc))
         case first =>
          have H := HC15.out
          clear HC15
          by_cases c18 : (l1.length : Int) = 0
          ·rw [if_pos c18] at H
           have c18b0 : ((l1.length : Int) == 0) = true := beq_iff_eq.mpr c18
           have c18b1 : ((l1.length : Int) != 0) = false := bne_eq_false_iff_eq.mpr c18
           clear c18
           (first | rw [c18b0] | (simp only [i64_w, i32_w]; rw [c18b0]) | skip)
           have H' := zK H
           clear H
           go_wp2
           go_meet
           case rel => exact ⟨_, (false), (by first | rfl | (simp; done) | (simp [*]; done)), H', ⟨by have := HJ3.out; have := HK2.out; first | omega | exact yN _⟩, ⟨by (with_reducible repeat (first | refine zF ?_ _ | refine zH ?_ | refine zG ?_ _)); exact Z0.out⟩, ⟨by repeat (first | (with_reducible first | exact HB.out | apply zJ | apply zD | apply zE | refine zI ?_ Z1.out) | exact HB.out)⟩⟩
          ·rw [if_neg c18] at H
           have c18b0 : ((l1.length : Int) == 0) = false := beq_eq_false_iff_ne.mpr c18
           have c18b1 : ((l1.length : Int) != 0) = true := bne_iff_ne.mpr c18
           have c18b2 : ¬ (l1 = []) := fun h_ => c18 (by rw [h_]; rfl)
           (first | rw [c18b0] | (simp only [i64_w, i32_w]; rw [c18b0]) | skip)
           have H' := zK H
           clear H
           go_wp2
           go_meet
           case rel => exact ⟨_, (((l1.length : Int) != (l0.length : Int))), (by first | rfl | (simp; done) | (simp [*]; done)), H', ⟨by have := HJ3.out; have := HK2.out; first | omega | exact yN _⟩, ⟨by (with_reducible repeat (first | refine zF ?_ _ | refine zH ?_ | refine zG ?_ _)); exact Z0.out⟩, ⟨by repeat (first | (with_reducible first | exact HB.out | apply zJ | apply zD | apply zE | refine zI ?_ Z1.out) | exact HB.out)⟩⟩
         case rest =>
          clear HC15
          try clear c1
          try clear c2
          try clear p2
          try clear q2
          try clear hx2
          try clear c4
          try clear c6
          try clear c6b0
          try clear c6b1
          try clear c6b2
          try clear p6
          try clear c7
          try clear c8
          try clear c8b0
          try clear c9
          try clear c9b0
          try clear c10
          try clear c10b0
          try clear c11
          try clear c11b0
          try clear c12
          try clear c12b0
          try clear c14
          try clear c14b0
          try clear c14b1
          try clear c15
          try clear c18
          try clear c18b0
          try clear c18b1
          try clear c18b2
          try clear hcz16_0
          try clear hcz16_1
          try clear hcz16_2
          try clear hcz16_3
          try clear hcz16_4
          try clear hcz16_5
          try clear hfz16_0
          try clear hfz16_1
          try clear hfz16_2
          try clear hfz16_3
          try clear hfz16_4
          try clear hfz16_5
          try clear hx242_0
          try clear p2
          try clear p242
          try clear q242
          obtain ⟨kq, x45_14, rfl, HA, HJ14, Z0, HB⟩ := hcut
          cases kq with
          | zero => exact absurd HA.out (by simp [r22_wrong.j2])
          | succ kj14 =>
           have H := HA.out
           clear HA
           simp only [r22_wrong.j2] at H
           by_cases c19 : x45_14 = true
           ·subst c19
            have H1 : (some 222) = some r := by rw [if_pos rfl] at H; exact H
            clear H
            have H := H1
            clear H1
            obtain rfl := yY H
            go_wp2
            go_ret
            exact ⟨by first | rfl | (simp [errW_none, errW_some] <;> rfl) | (simp [*, errW_none, errW_some] <;> rfl), by repeat (first | (with_reducible first | exact HB.out | apply zJ | apply zD | apply zE | refine zI ?_ Z1.out) | exact HB.out)⟩
           ·replace c19 := yh.mpr c19
            subst c19
            have H1 : (r22_wrong.l1 kj14 l1 (l0.length : Int) 0) = some r := by rw [if_neg (show ¬ (false = true) by decide)] at H; exact H
            clear H
            have H := H1
            clear H1
            have H' := zK H
            clear H
            go_wp2
            go_loopg [48] kj14 (fun kq v48 w' => ∃ (x48_4 : Int), v48 = .int .i64 x48_4 ∧ Aside0 (r22_wrong.l1 kq l1 (l0.length : Int) x48_4 = some r) ∧ Aside0 (kq ≤ kj14) ∧ Aside0 (w'.heap[Z4]? = some (.cells #[.int .i64 a2_0, .int .i64 a2_1, .int .i64 a2_2, .int .i64 a2_3, .int .i64 a2_4, (.slice A2_5 l2_5.length c2_5)] 31 (0, 0))) ∧ Aside0 (Below w.heap.size w w'))
            case atStart => exact ⟨(0), (by first | rfl | (simp; done) | (simp [*]; done)), H', ⟨yN _⟩, ⟨by (with_reducible repeat (first | refine zF ?_ _ | refine zH ?_ | refine zG ?_ _)); exact Z0.out⟩, ⟨by repeat (first | (with_reducible first | exact HB.out | apply zJ | apply zD | apply zE | refine zI ?_ Z1.out) | exact HB.out)⟩⟩
            case round =>
             clear H'
             try clear c1
             try clear c2
             try clear p2
             try clear q2
             try clear hx2
             try clear c4
             try clear c6
             try clear c6b0
             try clear c6b1
             try clear c6b2
             try clear p6
             try clear c7
             try clear c8
             try clear c8b0
             try clear c9
             try clear c9b0
             try clear c10
             try clear c10b0
             try clear c11
             try clear c11b0
             try clear c12
             try clear c12b0
             try clear c14
             try clear c14b0
             try clear c14b1
             try clear c15
             try clear c18
             try clear c18b0
             try clear c18b1
             try clear c18b2
             try clear c19
             try clear hcz16_0
             try clear hcz16_1
             try clear hcz16_2
             try clear hcz16_3
             try clear hcz16_4
             try clear hcz16_5
             try clear hfz16_0
             try clear hfz16_1
             try clear hfz16_2
             try clear hfz16_3
             try clear hfz16_4
             try clear hfz16_5
             try clear hx242_0
             try clear p2
             try clear p242
             try clear p6
             try clear q2
             try clear q242
             obtain ⟨x48_4, rfl, HA, HK4, Z0, HB⟩ := hrel
             cases gk with
             | zero => exact absurd HA.out (by simp [r22_wrong.l1])
             | succ k4 =>
              have H := HA.out
              clear HA
              simp only [r22_wrong.l1] at H
              by_cases c20 : x48_4 < (l0.length : Int)
              ·rw [if_pos c20] at H
               have c20b0 : decide (x48_4 < (l0.length : Int)) = true := yC c20
               clear c20
               replace H := yA.mp H
               obtain ⟨t244, A210, H⟩ := H
               replace H : (if t244 = true then (some 0) else (r22_wrong.l1 k4 l1 (l0.length : Int) (wrap64 (x48_4 + 1)))) = some r := H
               have A21 := zK A210
               clear A210
               by_cases c22 : t244 = true
               ·subst c22
                have H1 : (some 0) = some r := by rw [if_pos rfl] at H; exact H
                clear H
                have H := H1
                clear H1
                obtain rfl := yY H
                go_wp2_with (first | ((with_reducible refine gate_callee (f := 47) rfl ?_); refine goesL_ (some 53) rfl rfl Try.func47 (by kernel_rfl) rfl #[.slice A1 l1.length c1, .int .i64 x48_4] rfl (by (try simp only [yH, yI, yJ]); first | done | rfl | (simp only [yG, yF]; rfl)) ?_; (with_reducible refine (r22_may.calls _ _ l1 x48_4 true _ ?side1 ?side2 A21.out).mono ?_); (case side1 => repeat (first | exact (yc HR1.out HB.out) | (with_reducible refine yS ?_ _) | (with_reducible refine yT ?_ _) | (with_reducible refine yU ?_))); (case side2 => exact HC1.out); rintro e w' ⟨rfl, ⟨nd, rfl⟩⟩; refine ⟨_, rfl, ?_⟩))
                go_ret
                exact ⟨by first | rfl | (simp [errW_none, errW_some] <;> rfl) | (simp [*, errW_none, errW_some] <;> rfl), by repeat (first | (with_reducible first | exact HB.out | apply zJ | apply zD | apply zE | refine zI ?_ Z1.out) | exact HB.out)⟩
               ·replace c22 := yh.mpr c22
                subst c22
                have H1 : (r22_wrong.l1 k4 l1 (l0.length : Int) (wrap64 (x48_4 + 1))) = some r := by rw [if_neg (show ¬ (false = true) by decide)] at H; exact H
                clear H
                have H := H1
                clear H1
                have H' := zK H
                clear H
                go_wp2_with (first | ((with_reducible refine gate_callee (f := 47) rfl ?_); refine goesL_ (some 53) rfl rfl Try.func47 (by kernel_rfl) rfl #[.slice A1 l1.length c1, .int .i64 x48_4] rfl (by (try simp only [yH, yI, yJ]); first | done | rfl | (simp only [yG, yF]; rfl)) ?_; (with_reducible refine (r22_may.calls _ _ l1 x48_4 false _ ?side1 ?side2 A21.out).mono ?_); (case side1 => repeat (first | exact (yc HR1.out HB.out) | (with_reducible refine yS ?_ _) | (with_reducible refine yT ?_ _) | (with_reducible refine yU ?_))); (case side2 => exact HC1.out); rintro e w' ⟨rfl, ⟨nd, rfl⟩⟩; refine ⟨_, rfl, ?_⟩))
                go_roundg k4
                case measure => have := HJ3.out; have := HK2.out; have := HJ14.out; have := HK4.out; omega
                case rel => exact ⟨(wrap64 (x48_4 + 1)), (by first | rfl | (simp; done) | (simp [*]; done)), H', ⟨by have := HJ3.out; have := HK2.out; have := HJ14.out; have := HK4.out; omega⟩, ⟨by (with_reducible repeat (first | refine zF ?_ _ | refine zH ?_ | refine zG ?_ _)); exact Z0.out⟩, ⟨by repeat (first | (with_reducible first | exact HB.out | apply zJ | apply zD | apply zE | refine zI ?_ Z1.out) | exact HB.out)⟩⟩
              ·rw [if_neg c20] at H
               have c20b0 : decide (x48_4 < (l0.length : Int)) = false := yD c20
               clear c20
               obtain rfl := yY H
               go_wp2
               go_ret
               exact ⟨by first | rfl | (simp [errW_none, errW_some] <;> rfl) | (simp [*, errW_none, errW_some] <;> rfl), by repeat (first | (with_reducible first | exact HB.out | apply zJ | apply zD | apply zE | refine zI ?_ Z1.out) | exact HB.out)⟩
        ·rw [if_neg c14] at H
         have c14b0 : (t243 == 0) = false := beq_eq_false_iff_ne.mpr c14
         have c14b1 : (t243 != 0) = true := bne_iff_ne.mpr c14
         obtain rfl := yY H
         have hcz23_0 : wr.cell? ⟨Z4, 0, none⟩ = some (.int .i64 a2_0) := (zO Z0.out 0).trans rfl
         have hcz23_1 : wr.cell? ⟨Z4, 1, none⟩ = some (.int .i64 a2_1) := (zO Z0.out 1).trans rfl
         have hcz23_2 : wr.cell? ⟨Z4, 2, none⟩ = some (.int .i64 a2_2) := (zO Z0.out 2).trans rfl
         have hcz23_3 : wr.cell? ⟨Z4, 3, none⟩ = some (.int .i64 a2_3) := (zO Z0.out 3).trans rfl
         have hcz23_4 : wr.cell? ⟨Z4, 4, none⟩ = some (.int .i64 a2_4) := (zO Z0.out 4).trans rfl
         have hcz23_5 : wr.cell? ⟨Z4, 5, none⟩ = some (.slice A2_5 l2_5.length c2_5) := (zO Z0.out 5).trans rfl
         have hfz23_0 := yE Z0.out 0
         have hfz23_1 := yE Z0.out 1
         have hfz23_2 := yE Z0.out 2
         have hfz23_3 := yE Z0.out 3
         have hfz23_4 := yE Z0.out 4
         have hfz23_5 := yE Z0.out 5
         go_wp2_with (first | ((with_reducible refine gate_callee (f := 15) rfl ?_); refine goesL_ (some 34) rfl rfl Try.func15 (by kernel_rfl) rfl #[.agg #[.int .i64 a2_0, .int .i64 a2_1, .int .i64 a2_2, .int .i64 a2_3, .int .i64 a2_4, .slice A2_5 l2_5.length c2_5], .int .i64 (l0.length : Int)] rfl (by (try simp only [yH, yI, yJ]); first | done | rfl | (simp only [yG, yF]; rfl)) ?_; (with_reducible refine (r22_Check.calls k2 a2_0 a2_1 a2_2 a2_3 a2_4 _ _ l2_5 (l0.length : Int) t243 _ ?side1 ?side2 A13.out).mono ?_); (case side1 => repeat (first | exact (yc HR2_5.out HB.out) | (with_reducible refine yS ?_ _) | (with_reducible refine yT ?_ _) | (with_reducible refine yU ?_))); (case side2 => exact HC2_5.out); rintro e w24 ⟨rfl, hb⟩; refine ⟨_, rfl, ?_⟩; have n0_ := zK (zP (g := Z4) (o := .cells #[.int .i64 a2_0, .int .i64 a2_1, .int .i64 a2_2, .int .i64 a2_3, .int .i64 a2_4, .slice A2_5 l2_5.length c2_5] 31 (0, 0)) (by (with_reducible repeat (first | refine zF ?_ _ | refine zH ?_ | refine zG ?_ _)); exact Z0.out) hb); have n1_ := zK (yL (by repeat (first | (with_reducible first | exact HB.out | apply zJ | apply zD | apply zE | refine zI ?_ Z1.out) | exact HB.out)) hb); clear Z0 HB; have Z0 := n0_; have HB := n1_; clear n0_ n1_; (try clear hb); (try clear hb2); (try clear hk); (try clear hi)))
         go_ret
         exact ⟨by first | rfl | (simp [errW_none, errW_some] <;> rfl) | (simp [*, errW_none, errW_some] <;> rfl), by repeat (first | (with_reducible first | exact HB.out | apply zJ | apply zD | apply zE | refine zI ?_ Z1.out) | exact HB.out)⟩

/-! ### r02_Floor: function 48 -/
def r02_Floor.f (a0 : Int) (a1 : Int) : Option (Int × Int × Int) := if a1 < 1 then (some (0, 0, 21)) else (if a1 = 0 then (none) else (if (Int.tmod a0 a1) < 0 then (some (wrap64 ((wrap64 (Int.tdiv a0 a1)) - 1), wrap64 ((Int.tmod a0 a1) + a1), 0)) else (some (wrap64 (Int.tdiv a0 a1), Int.tmod a0 a1, 0))))
set_option maxHeartbeats 8000000 in
set_option maxRecDepth 100000 in
theorem r02_Floor.calls (a0 : Int) (a1 : Int) (r1 : Int) (r2 : Int) (r3 : Int) (w : World) (h : r02_Floor.f a0 a1 = some (r1, r2, r3)) :
    Calls Try.prog 48 #[.int .i64 a0, .int .i64 a1] w fun e w' => e = .returned (.tuple #[.int .i64 r1, .int .i64 r2, .int .i64 r3]) ∧ Drawn0 w w' := by
  have H : (if a1 < 1 then (some (0, 0, 21)) else (if a1 = 0 then (none) else (if (Int.tmod a0 a1) < 0 then (some (wrap64 ((wrap64 (Int.tdiv a0 a1)) - 1), wrap64 ((Int.tmod a0 a1) + a1), 0)) else (some (wrap64 (Int.tdiv a0 a1), Int.tmod a0 a1, 0))))) = some (r1, r2, r3) := h
  clear h
  by_cases c3 : a1 < 1
  ·rw [if_pos c3] at H
   have c3b0 : decide (a1 < 1) = true := yC c3
   clear c3
   simp only [yZ, ya] at H
   obtain ⟨rfl, rfl, rfl⟩ := H
   go_enter Try.func48, Try.ntmps48
   go_wp2
   go_ret3
   exact ⟨by first | rfl | (simp; done) | (simp [*]; done), by repeat (first | exact Drawn0.refl _ | apply Drawn0.step)⟩
  ·rw [if_neg c3] at H
   have c3b0 : decide (a1 < 1) = false := yD c3
   clear c3
   by_cases c4 : a1 = 0
   ·rw [if_pos c4] at H
    exact absurd H (by simp)
   ·rw [if_neg c4] at H
    have c4b0 : (a1 == 0) = false := beq_eq_false_iff_ne.mpr c4
    have c4b1 : (a1 != 0) = true := bne_iff_ne.mpr c4
    by_cases c5 : (Int.tmod a0 a1) < 0
    ·rw [if_pos c5] at H
     have c5b0 : decide ((Int.tmod a0 a1) < 0) = true := yC c5
     clear c5
     simp only [yZ, ya] at H
     obtain ⟨rfl, rfl, rfl⟩ := H
     go_enter Try.func48, Try.ntmps48
     go_wp2
     go_ret3
     exact ⟨by first | rfl | (simp; done) | (simp [*]; done), by repeat (first | exact Drawn0.refl _ | apply Drawn0.step)⟩
    ·rw [if_neg c5] at H
     have c5b0 : decide ((Int.tmod a0 a1) < 0) = false := yD c5
     clear c5
     simp only [yZ, ya] at H
     obtain ⟨rfl, rfl, rfl⟩ := H
     go_enter Try.func48, Try.ntmps48
     go_wp2
     go_ret3
     exact ⟨by first | rfl | (simp; done) | (simp [*]; done), by repeat (first | exact Drawn0.refl _ | apply Drawn0.step)⟩

/-! ### r02_Exp2: function 49 -/
mutual
def r02_Exp2.j0 : Nat → Int → Option (Int)
  | 0, _ => none
  | k + 1, x0 => (r02_Floor.f x0 65536).bind fun bt245 => (if (wrap64 (-bt245.1)) ≥ 31 then (some 0) else (r02_Exp2.l0 k (wrap64 (-bt245.1)) (wrap64 (1073741824 + (wrap64 (Int.tdiv (wrap64 ((wrap64 (747400624 + (wrap64 (Int.tdiv (wrap64 ((wrap64 (241400000 + (wrap64 (Int.tdiv (wrap64 (84941200 * bt245.2.1)) 65536)))) * bt245.2.1)) 65536)))) * bt245.2.1)) 65536)))) 0))
def r02_Exp2.l0 : Nat → Int → Int → Int → Option (Int)
  | 0, _, _, _ => none
  | k + 1, x6, x9, x10 => if x10 < x6 then (r02_Exp2.l0 k x6 (wrap64 (Int.tdiv x9 2)) (wrap64 (x10 + 1))) else (some x9)
end
def r02_Exp2.f (k : Nat) (a0 : Int) : Option (Int) := if a0 > 0 then (r02_Exp2.j0 k 0) else (r02_Exp2.j0 k a0)
theorem r02_Exp2.mono_l : ∀ k, (∀ y0, LeO (r02_Exp2.j0 k y0) (r02_Exp2.j0 (k + 1) y0)) ∧ (∀ y0 y1 y2, LeO (r02_Exp2.l0 k y0 y1 y2) (r02_Exp2.l0 (k + 1) y0 y1 y2))
  | 0 => ⟨fun _ r h => by simp [r02_Exp2.j0] at h, fun _ _ _ r h => by simp [r02_Exp2.l0] at h⟩
  | k + 1 => by
    obtain ⟨ih0, ih1⟩ := r02_Exp2.mono_l k
    refine ⟨?_, ?_⟩ <;> (intros; first | unfold r02_Exp2.j0 | unfold r02_Exp2.l0)
    all_goals repeat' first
      | (with_reducible exact ih0 _)
      | (with_reducible exact ih1 _ _ _)
      | (with_reducible exact yR _)
      | (with_reducible exact yO _)
      | (with_reducible refine yQ ?_ ?_)
      | (with_reducible refine yP ?_ (fun _ => ?_))
      | exact ih0 _
      | exact ih1 _ _ _
      | exact yO _
      | refine yQ ?_ ?_
      | refine yP ?_ (fun _ => ?_)
theorem r02_Exp2.mono : ∀ a0 k, LeO (r02_Exp2.f k a0) (r02_Exp2.f (k + 1) a0) := by
  intro a0 k
  obtain ⟨ih0, ih1⟩ := r02_Exp2.mono_l k
  unfold r02_Exp2.f
  repeat' first
      | (with_reducible exact ih0 _)
      | (with_reducible exact ih1 _ _ _)
      | (with_reducible exact yR _)
      | (with_reducible exact yO _)
      | (with_reducible refine yQ ?_ ?_)
      | (with_reducible refine yP ?_ (fun _ => ?_))
      | exact ih0 _
      | exact ih1 _ _ _
      | exact yO _
      | refine yQ ?_ ?_
      | refine yP ?_ (fun _ => ?_)
set_option maxHeartbeats 8000000 in
set_option maxRecDepth 100000 in
theorem r02_Exp2.calls (k : Nat) (a0 : Int) (r : Int) (w : World) (h : r02_Exp2.f k a0 = some r) :
    Calls Try.prog 49 #[.int .i64 a0] w fun e w' => e = .returned (.int .i64 r) ∧ Drawn0 w w' := by
  have H : (if a0 > 0 then (r02_Exp2.j0 k 0) else (r02_Exp2.j0 k a0)) = some r := h
  clear h
  have HC2 := zK H
  clear H
  go_enter Try.func49, Try.ntmps49
  go_upto_if 12 with (fail)
  go_cut [0] (fun v0 wc => ∃ (kq : Nat) (x0_1 : Int), v0 = .int .i64 x0_1 ∧ Aside0 (r02_Exp2.j0 kq x0_1 = some r) ∧ Aside0 (kq ≤ k) ∧ Drawn0 w wc)
  case first =>
   have H := HC2.out
   clear HC2
   by_cases c3 : a0 > 0
   ·rw [if_pos c3] at H
    have c3b0 : decide (0 < a0) = true := yC c3
    clear c3
    (first | rw [c3b0] | (simp only [i64_w, i32_w]; rw [c3b0]) | skip)
    have H' := zK H
    clear H
    go_wp2
    go_meet
    case rel => exact ⟨_, (0), (by first | rfl | (simp; done) | (simp [*]; done)), H', ⟨by first | omega | exact yN _⟩, by repeat (first | exact Drawn0.refl _ | apply Drawn0.step)⟩
   ·rw [if_neg c3] at H
    have c3b0 : decide (0 < a0) = false := yD c3
    clear c3
    (first | rw [c3b0] | (simp only [i64_w, i32_w]; rw [c3b0]) | skip)
    have H' := zK H
    clear H
    go_wp2
    go_meet
    case rel => exact ⟨_, (a0), (by first | rfl | (simp; done) | (simp [*]; done)), H', ⟨by first | omega | exact yN _⟩, by repeat (first | exact Drawn0.refl _ | apply Drawn0.step)⟩
  case rest =>
   clear HC2
   try clear p2
   try clear c3
   try clear c3b0
   obtain ⟨kq, x0_1, rfl, HA, HJ1, ⟨mc1, rfl⟩⟩ := hcut
   cases kq with
   | zero => exact absurd HA.out (by simp [r02_Exp2.j0])
   | succ kj1 =>
    have H := HA.out
    clear HA
    simp only [r02_Exp2.j0] at H
    replace H := yA.mp H
    obtain ⟨⟨t245, t246, t247⟩, A40, H⟩ := H
    replace H : (if (wrap64 (-t245)) ≥ 31 then (some 0) else (r02_Exp2.l0 kj1 (wrap64 (-t245)) (wrap64 (1073741824 + (wrap64 (Int.tdiv (wrap64 ((wrap64 (747400624 + (wrap64 (Int.tdiv (wrap64 ((wrap64 (241400000 + (wrap64 (Int.tdiv (wrap64 (84941200 * t246)) 65536)))) * t246)) 65536)))) * t246)) 65536)))) 0)) = some r := H
    have A4 := zK A40
    clear A40
    by_cases c5 : (wrap64 (-t245)) ≥ 31
    ·rw [if_pos c5] at H
     have c5b0 : decide (31 ≤ (wrap64 (-t245))) = true := yC c5
     clear c5
     obtain rfl := yY H
     go_wp2_with (first | ((with_reducible refine gate_callee (f := 48) rfl ?_); refine goesL_ (some 15) rfl rfl Try.func48 (by kernel_rfl) rfl #[.int .i64 x0_1, .int .i64 65536] rfl (by (try simp only [yH, yI, yJ]); first | done | rfl | (simp only [yG, yF]; rfl)) ?_; (with_reducible refine (r02_Floor.calls x0_1 65536 t245 t246 t247 _ A4.out).mono ?_); rintro e w' ⟨rfl, ⟨nd, rfl⟩⟩; refine ⟨_, rfl, ?_⟩))
     go_ret
     exact ⟨by first | rfl | (simp; done) | (simp [*]; done), by repeat (first | exact Drawn0.refl _ | apply Drawn0.step)⟩
    ·rw [if_neg c5] at H
     have c5b0 : decide (31 ≤ (wrap64 (-t245))) = false := yD c5
     clear c5
     have H' := zK H
     clear H
     go_wp2_with (first | ((with_reducible refine gate_callee (f := 48) rfl ?_); refine goesL_ (some 15) rfl rfl Try.func48 (by kernel_rfl) rfl #[.int .i64 x0_1, .int .i64 65536] rfl (by (try simp only [yH, yI, yJ]); first | done | rfl | (simp only [yG, yF]; rfl)) ?_; (with_reducible refine (r02_Floor.calls x0_1 65536 t245 t246 t247 _ A4.out).mono ?_); rintro e w' ⟨rfl, ⟨nd, rfl⟩⟩; refine ⟨_, rfl, ?_⟩))
     go_loopg [9, 10] kj1 (fun kq v9 v10 w' => ∃ (x9_2 : Int) (x10_2 : Int), v9 = .int .i64 x9_2 ∧ v10 = .int .i64 x10_2 ∧ Aside0 (r02_Exp2.l0 kq (wrap64 (-t245)) x9_2 x10_2 = some r) ∧ Aside0 (kq ≤ kj1) ∧ Drawn0 w w')
     case atStart => exact ⟨(wrap64 (1073741824 + (wrap64 (Int.tdiv (wrap64 ((wrap64 (747400624 + (wrap64 (Int.tdiv (wrap64 ((wrap64 (241400000 + (wrap64 (Int.tdiv (wrap64 (84941200 * t246)) 65536)))) * t246)) 65536)))) * t246)) 65536)))), (0), (by first | rfl | (simp; done) | (simp [*]; done)), (by first | rfl | (simp; done) | (simp [*]; done)), H', ⟨yN _⟩, by repeat (first | exact Drawn0.refl _ | apply Drawn0.step)⟩
     case round =>
      clear H'
      try clear c1
      try clear p2
      try clear c3
      try clear c3b0
      try clear c4
      try clear c5
      try clear c5b0
      try clear p2
      obtain ⟨x9_2, x10_2, rfl, rfl, HA, HK2, ⟨m2, rfl⟩⟩ := hrel
      cases gk with
      | zero => exact absurd HA.out (by simp [r02_Exp2.l0])
      | succ k2 =>
       have H := HA.out
       clear HA
       simp only [r02_Exp2.l0] at H
       by_cases c6 : x10_2 < (wrap64 (-t245))
       ·rw [if_pos c6] at H
        have c6b0 : decide (x10_2 < (wrap64 (-t245))) = true := yC c6
        clear c6
        have H' := zK H
        clear H
        go_wp2
        go_roundg k2
        case measure => have := HJ1.out; have := HK2.out; omega
        case rel => exact ⟨(wrap64 (Int.tdiv x9_2 2)), (wrap64 (x10_2 + 1)), (by first | rfl | (simp; done) | (simp [*]; done)), (by first | rfl | (simp; done) | (simp [*]; done)), H', ⟨by have := HJ1.out; have := HK2.out; omega⟩, by repeat (first | exact Drawn0.refl _ | apply Drawn0.step)⟩
       ·rw [if_neg c6] at H
        have c6b0 : decide (x10_2 < (wrap64 (-t245))) = false := yD c6
        clear c6
        obtain rfl := yY H
        go_wp2
        go_ret
        exact ⟨by first | rfl | (simp; done) | (simp [*]; done), by repeat (first | exact Drawn0.refl _ | apply Drawn0.step)⟩

/-! ### r22_only: function 50 -/
def r22_only.l0 : Nat → List Int → List Int → List Int → Int → Int → Option (List Int)
  | 0, _, _, _, _, _ => none
  | k + 1, x0, x5, x11, x12, x13 => if x13 < x12 then (if 0 ≤ x13 then (if x13 < (x11.length : Int) then (if 0 ≤ (rd x11 x13) then (if (rd x11 x13) < (x0.length : Int) then (if (rd x11 x13) < (x5.length : Int) then (r22_only.l0 k x0 (x5.set ((rd x11 x13) : Int).toNat (rd x0 (rd x11 x13))) x11 x12 (wrap64 (x13 + 1))) else (none)) else (none)) else (none)) else (none)) else (none)) else (some x5)
def r22_only.f (k : Nat) (l0 : List Int) (l1 : List Int) : Option (List Int) := if 0 ≤ (l0.length : Int) then (if ((l0.length : Int) : Int).toNat ≤ 35184372088832 then (r22_only.l0 k l0 (List.replicate ((l0.length : Int) : Int).toNat 0) l1 (l1.length : Int) 0) else (none)) else (none)
theorem r22_only.mono_l : ∀ k, (∀ y0 y1 y2 y3 y4, LeO (r22_only.l0 k y0 y1 y2 y3 y4) (r22_only.l0 (k + 1) y0 y1 y2 y3 y4))
  | 0 => fun _ _ _ _ _ r h => by simp [r22_only.l0] at h
  | k + 1 => by
    have ih0 := r22_only.mono_l k
    intros
    unfold r22_only.l0
    all_goals repeat' first
      | (with_reducible exact ih0 _ _ _ _ _)
      | (with_reducible exact yR _)
      | (with_reducible exact yO _)
      | (with_reducible refine yQ ?_ ?_)
      | (with_reducible refine yP ?_ (fun _ => ?_))
      | exact ih0 _ _ _ _ _
      | exact yO _
      | refine yQ ?_ ?_
      | refine yP ?_ (fun _ => ?_)
theorem r22_only.mono : ∀ a0 a1 k, LeO (r22_only.f k a0 a1) (r22_only.f (k + 1) a0 a1) := by
  intro a0 a1 k
  have ih0 := r22_only.mono_l k
  unfold r22_only.f
  repeat' first
      | (with_reducible exact ih0 _ _ _ _ _)
      | (with_reducible exact yR _)
      | (with_reducible exact yO _)
      | (with_reducible refine yQ ?_ ?_)
      | (with_reducible refine yP ?_ (fun _ => ?_))
      | exact ih0 _ _ _ _ _
      | exact yO _
      | refine yQ ?_ ?_
      | refine yP ?_ (fun _ => ?_)
set_option maxHeartbeats 8000000 in
set_option maxRecDepth 100000 in
theorem r22_only.calls (k : Nat) (A0 : Option Addr) (c0 : Nat) (l0 : List Int) (A1 : Option Addr) (c1 : Nat) (l1 : List Int) (r : List Int) (w : World) (hr0 : Kd.C (Kd.int .i64) w A0 l0.length l0) (hc0 : l0.length ≤ c0) (hr1 : Kd.C (Kd.int .i64) w A1 l1.length l1) (hc1 : l1.length ≤ c1) (h : r22_only.f k l0 l1 = some r) :
    Calls Try.prog 50 #[.slice A0 l0.length c0, .slice A1 l1.length c1] w fun e w' => ∃ v0_ : Value, e = .returned (v0_) ∧ Kd.R (Kd.int .i64) 2 w' w.heap.size (fun _ => True) v0_ r ∧ Below w.heap.size w w' := by
  have HR0 := zK hr0
  have HC0 := zK hc0
  clear hr0 hc0
  have HR1 := zK hr1
  have HC1 := zK hc1
  clear hr1 hc1
  have HB := zK (Below.refl w.heap.size w)
  have H : (if 0 ≤ (l0.length : Int) then (if ((l0.length : Int) : Int).toNat ≤ 35184372088832 then (r22_only.l0 k l0 (List.replicate ((l0.length : Int) : Int).toNat 0) l1 (l1.length : Int) 0) else (none)) else (none)) = some r := h
  clear h
  by_cases c3 : 0 ≤ (l0.length : Int)
  ·rw [if_pos c3] at H
   have c3b0 := yg c3
   have c3b1 : decide (0 ≤ (l0.length : Int)) = true := yC c3
   clear c3
   by_cases c4 : ((l0.length : Int) : Int).toNat ≤ 35184372088832
   ·rw [if_pos c4] at H
    have c4b0 := yg c4
    have c4b1 : decide (((l0.length : Int) : Int).toNat ≤ 35184372088832) = true := yC c4
    clear c4
    obtain ⟨y248, hy248⟩ : ∃ y_ : List Int, y_ = (List.replicate ((l0.length : Int) : Int).toNat 0) := ⟨_, rfl⟩
    replace H : (r22_only.l0 k l0 y248 l1 (l1.length : Int) 0) = some r := by first | (rw [hy248]; with_reducible exact H) | (have H2_ := (yV _ _).symm.trans H; rw [hy248]; with_reducible exact H2_) | (have H2_ := (yV _ _).symm.trans H; with_reducible exact H2_) | with_reducible exact H | (rw [hy248]; exact H) | exact H
    have Ny248 := zK hy248
    clear hy248
    have H' := zK H
    clear H
    go_enter Try.func50, Try.ntmps50
    go_wp2_with (first | ((with_reducible refine gate_dst (N := 10) rfl ?_); refine Kd.R_make (Kd.int .i64) _ 2 rfl (N := 10) rfl 36 _ _ rfl (l0.length : Int) rfl rfl Try.underlying36 (.int .i64 0) 8 info2 rfl (by decide) (by omega) 0 (ok := fun _ => True) (okp := fun _ => True) rfl (fun _ hk => hk) trivial (yB (by first | (with_reducible assumption) | assumption)) (yl (Nat.mul_le_mul_right _ (yB (by first | (with_reducible assumption) | assumption) : (l0.length : Int).toNat ≤ 35184372088832)) (by omega)) (Below.refl _ _) (yN _) ?_; intro v249 w5 ho6 hb hg_ hnew_; clear hg_ hnew_; (first | rw [← Ny248.out] at ho6 | (simp only [Int.reduceToNat] at ho6; rw [← Ny248.out] at ho6)); have n0_ := zK (Kd.R_lower ho6 (yK (by repeat (first | (with_reducible first | exact HB.out | apply zJ | apply zD | apply zE) | exact HB.out)))); have n1_ := zK (yL (by repeat (first | (with_reducible first | exact HB.out | apply zJ | apply zD | apply zE) | exact HB.out)) hb); clear HB; have HO250 := n0_; have HB := n1_; clear n0_ n1_ hb ho6))
    go_loopg [13] k (fun kq v13 w' => ∃ (x5_1 : List Int) (x13_1 : Int), v13 = .int .i64 x13_1 ∧ Aside0 (r22_only.l0 kq l0 x5_1 l1 (l1.length : Int) x13_1 = some r) ∧ Aside0 (kq ≤ k) ∧ Aside0 (Kd.R (Kd.int .i64) 2 w' w.heap.size (fun _ => True) v249 x5_1) ∧ Aside0 (Below w.heap.size w w'))
    case atStart => exact ⟨(y248), (0), (by first | rfl | (simp; done) | (simp [*]; done)), H', ⟨yN _⟩, ⟨by (with_reducible repeat (first | apply zL | apply zM | apply zN)); exact HO250.out⟩, ⟨by repeat (first | (with_reducible first | exact HB.out | apply zJ | apply zD | apply zE) | exact HB.out)⟩⟩
    case round =>
     clear H'
     try clear c1
     try clear p2
     try clear c3
     try clear c3b0
     try clear c3b1
     try clear c4
     try clear c4b0
     try clear c4b1
     try clear c5
     obtain ⟨x5_1, x13_1, rfl, HA, HK1, HO_5, HB⟩ := hrel
     cases gk with
     | zero => exact absurd HA.out (by simp [r22_only.l0])
     | succ k1 =>
      have H := HA.out
      clear HA
      simp only [r22_only.l0] at H
      by_cases c7 : x13_1 < (l1.length : Int)
      ·rw [if_pos c7] at H
       have c7b0 : decide (x13_1 < (l1.length : Int)) = true := yC c7
       clear c7
       by_cases c8 : 0 ≤ x13_1
       ·rw [if_pos c8] at H
        have c8b0 : decide (0 ≤ x13_1) = true := yC c8
        clear c8
        by_cases c9 : x13_1 < (l1.length : Int)
        ·rw [if_pos c9] at H
         have c9b0 : decide (x13_1 < (l1.length : Int)) = true := yC c9
         clear c9
         by_cases c10 : 0 ≤ (rd l1 x13_1)
         ·rw [if_pos c10] at H
          have c10b0 : decide (0 ≤ (rd l1 x13_1)) = true := yC c10
          clear c10
          by_cases c11 : (rd l1 x13_1) < (l0.length : Int)
          ·rw [if_pos c11] at H
           have c11b0 : decide ((rd l1 x13_1) < (l0.length : Int)) = true := yC c11
           clear c11
           by_cases c12 : (rd l1 x13_1) < (x5_1.length : Int)
           ·rw [if_pos c12] at H
            have c12b0 : decide ((rd l1 x13_1) < (x5_1.length : Int)) = true := yC c12
            clear c12
            obtain ⟨y253, hy253⟩ : ∃ y_ : List Int, y_ = (x5_1.set ((rd l1 x13_1) : Int).toNat (rd l0 (rd l1 x13_1))) := ⟨_, rfl⟩
            replace H : (r22_only.l0 k1 l0 y253 l1 (l1.length : Int) (wrap64 (x13_1 + 1))) = some r := by first | (rw [hy253]; with_reducible exact H) | (have H2_ := (yV _ _).symm.trans H; rw [hy253]; with_reducible exact H2_) | (have H2_ := (yV _ _).symm.trans H; with_reducible exact H2_) | with_reducible exact H | (rw [hy253]; exact H) | exact H
            have Ny253 := zK hy253
            clear hy253
            have H' := zK H
            clear H
            have p251 : 0 ≤ (x13_1 : Int) := yB (by first | (with_reducible assumption) | assumption)
            have q251 : x13_1 < (l1.length : Int) := yB (by first | (with_reducible assumption) | assumption)
            obtain ⟨ad251, e251, hx251_0⟩ := Kd.at_int HR1.out x13_1 p251 q251
            cases e251
            replace hx251_0 := (HB.out.cell (World.block_lt_of_cell? w _ hx251_0)).trans hx251_0
            replace p251 := yg p251
            replace q251 := yg q251
            have p252 : 0 ≤ ((rd l1 x13_1) : Int) := yB (by first | (with_reducible assumption) | assumption)
            have q252 : (rd l1 x13_1) < (l0.length : Int) := yB (by first | (with_reducible assumption) | assumption)
            obtain ⟨ad252, e252, hx252_0⟩ := Kd.at_int HR0.out (rd l1 x13_1) p252 q252
            cases e252
            replace hx252_0 := (HB.out.cell (World.block_lt_of_cell? w _ hx252_0)).trans hx252_0
            replace p252 := yg p252
            replace q252 := yg q252
            have p13 : 0 ≤ ((rd l1 x13_1) : Int) := yB (by first | (with_reducible assumption) | assumption)
            have q13 : ((rd l1 x13_1) : Int) < ((x5_1.length : Int) : Int) := yB (by first | (with_reducible assumption) | assumption)
            obtain ⟨go13, co13, eo13, Z3, gl13, cl13, HG13⟩ := Kd.R_form HO_5.out (by omega)
            (first | cases eo13 | (injection eo13 with ea_ en_ ec_; (first | subst ea_ | (injection ea_ with ea_; subst ea_)); subst ec_; clear en_))
            have GB13 := zK Z3
            have GG13 := zK HG13
            clear Z3 gl13 HG13
            obtain ⟨hx13_0, hf13_0⟩ := Kd.R_celln 0 HO_5.out ((rd l1 x13_1) : Int) p13 q13
            replace p13 := yg p13
            replace q13 := yg q13
            have HP14 := Kd.R_putg HO_5.out ((rd l1 x13_1) : Int) (rd l0 (rd l1 x13_1))
            go_wp2_with (first | ((with_reducible refine gate_store (t := 2) (p := 23) rfl ?_); refine store_event (t := 2) (p := 23) (v := ?vo_w15) (w1 := (wr.setCell ⟨go13, ((rd l1 x13_1) : Int).toNat, none⟩ (.int .i64 (rd l0 (rd l1 x13_1))))) ?hg ?ho ?hn ?hr ?_; (case ho => rfl); (case hg => rfl); (case hn => rfl); (case hr => first | (go_simp; done) | (go_simp; rfl)); intro w15 hw; have hg : wr.grownBy w15 (some go13) := (by rw [hw]; exact HP14.2); have hp_ : Kd.R (Kd.int .i64) 2 w15 w.heap.size (fun _ => True) (.slice (some ⟨go13, 0, none⟩) x5_1.length co13) y253 := (by rw [hw, Ny253.out]; exact HP14.1); clear HP14; have n0_ := zK (hp_); have n1_ := zK ((by rw [hw]; exact zI (HB.out) GB13.out : Below w.heap.size w w15)); clear HO_5 HB; have HO_5 := n0_; have HB := n1_; clear n0_ n1_ hg hw hp_))
            go_roundg k1
            case measure => have := HK1.out; omega
            case rel => exact ⟨(y253), (wrap64 (x13_1 + 1)), (by first | rfl | (simp; done) | (simp [*]; done)), H', ⟨by have := HK1.out; omega⟩, ⟨by (with_reducible repeat (first | apply zL | apply zM | apply zN)); exact HO_5.out⟩, ⟨by repeat (first | (with_reducible first | exact HB.out | apply zJ | apply zD | apply zE) | exact HB.out)⟩⟩
           ·rw [if_neg c12] at H
            exact absurd H (by simp)
          ·rw [if_neg c11] at H
           exact absurd H (by simp)
         ·rw [if_neg c10] at H
          exact absurd H (by simp)
        ·rw [if_neg c9] at H
         exact absurd H (by simp)
       ·rw [if_neg c8] at H
        exact absurd H (by simp)
      ·rw [if_neg c7] at H
       have c7b0 : decide (x13_1 < (l1.length : Int)) = false := yD c7
       clear c7
       obtain rfl := yY H
       go_wp2
       go_ret
       exact ⟨_, by first | rfl | (simp [errW_none, errW_some] <;> rfl) | (simp [*, errW_none, errW_some] <;> rfl), by (with_reducible repeat (first | apply zL | apply zM | apply zN)); exact HO_5.out, by repeat (first | (with_reducible first | exact HB.out | apply zJ | apply zD | apply zE) | exact HB.out)⟩
   ·rw [if_neg c4] at H
    exact absurd H (by simp)
  ·rw [if_neg c3] at H
   exact absurd H (by simp)

end Go.Proofs.Ythmckhfjaleomaa.T
