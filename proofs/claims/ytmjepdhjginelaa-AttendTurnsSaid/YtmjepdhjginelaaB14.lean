-- Printed by this session's own driver (wip/tools/xprint.py) over the kit's printer; given functions are this session's own.
import Derived.Test.YtmjepdhjginelaaB0
import Derived.Test.YtmjepdhjginelaaB2
import Derived.Test.YtmjepdhjginelaaB11
namespace Go.Proofs.Ytmjepdhjginelaa.B
open Go.RowKit Go.Proofs.YtmjepdhjginelaaW.PrintWords Go.Proofs.YtmjepdhjginelaaW.PrintLast Go.Proofs.YtmjepdhjginelaaW.PrintMore
attribute [local go_sem] max2_int min2_int max_two min_two max_three min_three max_four min_four   -- for this text's walks alone
set_option linter.unusedVariables false
set_option linter.unusedSimpArgs false

/-! ### r19_Look: function 20 -/
mutual
def r19_Look.j0 : Nat → List Int → Int → List (S50) → Int → Bool → Option (List Int × Int)
 | 0, _, _, _, _, _ => none
 | k + 1, x0, x1, x2, x3, x29 => if x29 = true then (some ((([] : List Int)), 190)) else (r19_Look.l0 k x0 x1 x2 x3 (([] : List (List Int))) (([] : List (List Int))) 0)
def r19_Look.l0 : Nat → List Int → Int → List (S50) → Int → List (List Int) → List (List Int) → Int → Option (List Int × Int)
 | 0, _, _, _, _, _, _, _ => none
 | k + 1, x0, x1, x2, x3, x10, x11, x12 => if x12 < (x2.length : Int) then (if 0 ≤ x12 then (if x10.length < 5864062014805 then (if x11.length < 5864062014805 then (r19_Look.l0 k x0 x1 x2 x3 (x10 ++ [(rd_T50 x2 x12).f0]) (x11 ++ [(rd_T50 x2 x12).f1]) (wrap64 (x12 + 1))) else (none)) else (none)) else (none)) else ((r19_wrong.f k x0 x10).bind fun t398 => (if t398 = true then (r19_Look.j2 k x0 x1 x2 x3 x10 x11 true) else ((r19_wrong.f k x0 x11).bind fun t399 => (r19_Look.j2 k x0 x1 x2 x3 x10 x11 t399))))
def r19_Look.j2 : Nat → List Int → Int → List (S50) → Int → List (List Int) → List (List Int) → Bool → Option (List Int × Int)
 | 0, _, _, _, _, _, _, _ => none
 | k + 1, x0, x1, x2, x3, x10, x11, x62 => if x62 = true then (some ((([] : List Int)), 191)) else (if x3 < 0 then (r19_Look.j3 k x0 x1 x2 x3 x10 x11 true) else (r19_Look.j3 k x0 x1 x2 x3 x10 x11 (decide (x3 > 31))))
def r19_Look.j3 : Nat → List Int → Int → List (S50) → Int → List (List Int) → List (List Int) → Bool → Option (List Int × Int)
 | 0, _, _, _, _, _, _, _ => none
 | k + 1, x0, x1, x2, x3, x10, x11, x69 => if x69 = true then (some ((([] : List Int)), 20)) else (if x1 = 0 then (none) else (r19_Look.l1 k x0 x1 x2 x3 x10 x11 (wrap64 ((x0.length : Int) / x1)) (([] : List Int)) 0))
def r19_Look.l1 : Nat → List Int → Int → List (S50) → Int → List (List Int) → List (List Int) → Int → List Int → Int → Option (List Int × Int)
 | 0, _, _, _, _, _, _, _, _, _ => none
 | k + 1, x0, x1, x2, x3, x10, x11, x13, x14, x15 => if x15 < x1 then (r19_Look.l2 k x0 x1 x2 x3 x10 x11 x13 x14 x15 (([] : List (List Int))) (([] : List (List Int))) 0) else (some (x14, 0))
def r19_Look.l2 : Nat → List Int → Int → List (S50) → Int → List (List Int) → List (List Int) → Int → List Int → Int → List (List Int) → List (List Int) → Int → Option (List Int × Int)
 | 0, _, _, _, _, _, _, _, _, _, _, _, _ => none
 | k + 1, x0, x1, x2, x3, x10, x11, x13, x14, x15, x16, x17, x18 => if x18 < (x2.length : Int) then (if 0 ≤ x18 then (if x18 < (x10.length : Int) then (if 0 ≤ (wrap64 (x15 * x13)) then (if (wrap64 (x15 * x13)) ≤ (wrap64 ((wrap64 (x15 + 1)) * x13)) then (if (wrap64 ((wrap64 (x15 + 1)) * x13)) ≤ ((rd_L1 x10 x18).length : Int) then (if x16.length < 5864062014805 then (if x18 < (x11.length : Int) then (if (wrap64 ((wrap64 (x15 + 1)) * x13)) ≤ ((rd_L1 x11 x18).length : Int) then (if x17.length < 5864062014805 then (r19_Look.l2 k x0 x1 x2 x3 x10 x11 x13 x14 x15 (x16 ++ [(((rd_L1 x10 x18).take ((wrap64 ((wrap64 (x15 + 1)) * x13)) : Int).toNat).drop ((wrap64 (x15 * x13)) : Int).toNat)]) (x17 ++ [(((rd_L1 x11 x18).take ((wrap64 ((wrap64 (x15 + 1)) * x13)) : Int).toNat).drop ((wrap64 (x15 * x13)) : Int).toNat)]) (wrap64 (x18 + 1))) else (none)) else (none)) else (none)) else (none)) else (none)) else (none)) else (none)) else (none)) else (none)) else (if 0 ≤ (wrap64 (x15 * x13)) then (if (wrap64 (x15 * x13)) ≤ (wrap64 ((wrap64 (x15 + 1)) * x13)) then (if (wrap64 ((wrap64 (x15 + 1)) * x13)) ≤ (x0.length : Int) then ((r19_Head.f k ((x0.take ((wrap64 ((wrap64 (x15 + 1)) * x13)) : Int).toNat).drop ((wrap64 (x15 * x13)) : Int).toNat) x16 x17 x3).bind fun bt434 => (if x14.length + bt434.1.length < 140737488355328 then (r19_Look.l1 k x0 x1 x2 x3 x10 x11 x13 (x14 ++ bt434.1) (wrap64 (x15 + 1))) else (none))) else (none)) else (none)) else (none))
end
def r19_Look.f (k : Nat) (l0 : List Int) (a1 : Int) (l2 : List (S50)) (a3 : Int) : Option (List Int × Int) := if a1 < 1 then (r19_Look.j0 k l0 a1 l2 a3 true) else (if a1 = 0 then (none) else (r19_Look.j0 k l0 a1 l2 a3 (((l0.length : Int) % a1) != 0)))
theorem r19_Look.mono_l : ∀ k, (∀ y0 y1 y2 y3 y4, LeO (r19_Look.j0 k y0 y1 y2 y3 y4) (r19_Look.j0 (k + 1) y0 y1 y2 y3 y4)) ∧ (∀ y0 y1 y2 y3 y4 y5 y6, LeO (r19_Look.l0 k y0 y1 y2 y3 y4 y5 y6) (r19_Look.l0 (k + 1) y0 y1 y2 y3 y4 y5 y6)) ∧ (∀ y0 y1 y2 y3 y4 y5 y6, LeO (r19_Look.j2 k y0 y1 y2 y3 y4 y5 y6) (r19_Look.j2 (k + 1) y0 y1 y2 y3 y4 y5 y6)) ∧ (∀ y0 y1 y2 y3 y4 y5 y6, LeO (r19_Look.j3 k y0 y1 y2 y3 y4 y5 y6) (r19_Look.j3 (k + 1) y0 y1 y2 y3 y4 y5 y6)) ∧ (∀ y0 y1 y2 y3 y4 y5 y6 y7 y8, LeO (r19_Look.l1 k y0 y1 y2 y3 y4 y5 y6 y7 y8) (r19_Look.l1 (k + 1) y0 y1 y2 y3 y4 y5 y6 y7 y8)) ∧ (∀ y0 y1 y2 y3 y4 y5 y6 y7 y8 y9 y10 y11, LeO (r19_Look.l2 k y0 y1 y2 y3 y4 y5 y6 y7 y8 y9 y10 y11) (r19_Look.l2 (k + 1) y0 y1 y2 y3 y4 y5 y6 y7 y8 y9 y10 y11))
 | 0 => ⟨fun _ _ _ _ _ r h => by simp [r19_Look.j0] at h, fun _ _ _ _ _ _ _ r h => by simp [r19_Look.l0] at h, fun _ _ _ _ _ _ _ r h => by simp [r19_Look.j2] at h, fun _ _ _ _ _ _ _ r h => by simp [r19_Look.j3] at h, fun _ _ _ _ _ _ _ _ _ r h => by simp [r19_Look.l1] at h, fun _ _ _ _ _ _ _ _ _ _ _ _ r h => by simp [r19_Look.l2] at h⟩
 | k + 1 => by
  obtain ⟨ih0, ih1, ih2, ih3, ih4, ih5⟩ := r19_Look.mono_l k
  refine ⟨?_, ?_, ?_, ?_, ?_, ?_⟩ <;> (intros; first | unfold r19_Look.j0 | unfold r19_Look.l0 | unfold r19_Look.j2 | unfold r19_Look.j3 | unfold r19_Look.l1 | unfold r19_Look.l2)
  all_goals repeat' first
   | (with_reducible exact ih0 _ _ _ _ _)
   | (with_reducible exact ih1 _ _ _ _ _ _ _)
   | (with_reducible exact ih2 _ _ _ _ _ _ _)
   | (with_reducible exact ih3 _ _ _ _ _ _ _)
   | (with_reducible exact ih4 _ _ _ _ _ _ _ _ _)
   | (with_reducible exact ih5 _ _ _ _ _ _ _ _ _ _ _ _)
   | (with_reducible exact r19_Head.mono _ _ _ _ _)
   | (with_reducible exact r19_wrong.mono _ _ _)
   | (with_reducible exact yR _)
   | (with_reducible exact yO _)
   | (with_reducible refine yQ ?_ ?_)
   | (with_reducible refine yP ?_ (fun _ => ?_))
   | exact ih0 _ _ _ _ _
   | exact ih1 _ _ _ _ _ _ _
   | exact ih2 _ _ _ _ _ _ _
   | exact ih3 _ _ _ _ _ _ _
   | exact ih4 _ _ _ _ _ _ _ _ _
   | exact ih5 _ _ _ _ _ _ _ _ _ _ _ _
   | exact r19_Head.mono _ _ _ _ _
   | exact r19_wrong.mono _ _ _
   | exact yO _
   | refine yQ ?_ ?_
   | refine yP ?_ (fun _ => ?_)
theorem r19_Look.mono : ∀ a0 a1 a2 a3 k, LeO (r19_Look.f k a0 a1 a2 a3) (r19_Look.f (k + 1) a0 a1 a2 a3) := by
 intro a0 a1 a2 a3 k
 obtain ⟨ih0, ih1, ih2, ih3, ih4, ih5⟩ := r19_Look.mono_l k
 unfold r19_Look.f
 repeat' first
   | (with_reducible exact ih0 _ _ _ _ _)
   | (with_reducible exact ih1 _ _ _ _ _ _ _)
   | (with_reducible exact ih2 _ _ _ _ _ _ _)
   | (with_reducible exact ih3 _ _ _ _ _ _ _)
   | (with_reducible exact ih4 _ _ _ _ _ _ _ _ _)
   | (with_reducible exact ih5 _ _ _ _ _ _ _ _ _ _ _ _)
   | (with_reducible exact r19_Head.mono _ _ _ _ _)
   | (with_reducible exact r19_wrong.mono _ _ _)
   | (with_reducible exact yR _)
   | (with_reducible exact yO _)
   | (with_reducible refine yQ ?_ ?_)
   | (with_reducible refine yP ?_ (fun _ => ?_))
   | exact ih0 _ _ _ _ _
   | exact ih1 _ _ _ _ _ _ _
   | exact ih2 _ _ _ _ _ _ _
   | exact ih3 _ _ _ _ _ _ _
   | exact ih4 _ _ _ _ _ _ _ _ _
   | exact ih5 _ _ _ _ _ _ _ _ _ _ _ _
   | exact r19_Head.mono _ _ _ _ _
   | exact r19_wrong.mono _ _ _
   | exact yO _
   | refine yQ ?_ ?_
   | refine yP ?_ (fun _ => ?_)
set_option maxHeartbeats 8000000 in
set_option maxRecDepth 100000 in
theorem r19_Look.calls (k : Nat) (A0 : Option Addr) (c0 : Nat) (l0 : List Int) (a1 : Int) (P2_ : Nat → Prop) (A2 : Option Addr) (c2 : Nat) (l2 : List (S50)) (a3 : Int) (r1 : List Int) (r2 : Int) (w : World) (hr0 : Kd.C (Kd.int .i8) w A0 l0.length l0) (hc0 : l0.length ≤ c0) (hs2 : Kd.V k50 50 w w.heap.size (fun k_ => P2_ k_) (.slice A2 l2.length c2) l2) (h : r19_Look.f k l0 a1 l2 a3 = some (r1, r2)) :
  Calls Try.prog 20 #[.slice A0 l0.length c0, .int .i64 a1, .slice A2 l2.length c2, .int .i64 a3] w fun e w' => ∃ v0_ : Value, e = .returned (.tuple #[v0_, .int .i64 r2]) ∧ Kd.R (Kd.int .i8) 53 w' w.heap.size (fun k_ => (w.heap.size ≤ k_)) v0_ r1 ∧ Below w.heap.size w w' := by
 have HR0 := zK hr0
 have HC0 := zK hc0
 clear hr0 hc0
 have HO2 := zK (show Kd.V k50 50 w w.heap.size (fun k_ => (P2_ k_ ∨ w.heap.size ≤ k_)) (.slice A2 l2.length c2) l2 from Kd.V_mono hs2 (fun k_ hk => .inl hk))
 have HB := zK (Below.refl w.heap.size w)
 have H : (if a1 < 1 then (r19_Look.j0 k l0 a1 l2 a3 true) else (if a1 = 0 then (none) else (r19_Look.j0 k l0 a1 l2 a3 (((l0.length : Int) % a1) != 0)))) = some (r1, r2) := h
 clear h
 have HC5 := zK H
 clear H
 go_enter Try.func20, Try.ntmps20
 go_upto_region 1 with (fail)
 go_cut [29] (fun v29 wc => ∃ (kq : Nat) (x29_4 : Bool), v29 = .bool x29_4 ∧ Aside0 (r19_Look.j0 kq l0 a1 l2 a3 x29_4 = some (r1, r2)) ∧ Aside0 (kq ≤ k) ∧ Aside0 (Kd.V k50 50 wc w.heap.size (fun k_ => (P2_ k_ ∨ w.heap.size ≤ k_)) (.slice A2 l2.length c2) l2) ∧ Aside0 (Below w.heap.size w wc))
 case first =>
  have H := HC5.out
  clear HC5
  by_cases c6 : a1 < 1
  ·rw [if_pos c6] at H
   have c6b0 : decide (a1 < 1) = true := yC c6
   clear c6
   (first | rw [c6b0] | (simp only [i64_w, i32_w]; rw [c6b0]) | skip)
   have H' := zK H
   clear H
   go_wp2
   go_meet
   case rel => exact ⟨_, (true), (by first | rfl | (simp; done) | (simp [*]; done)), H', ⟨by first | omega | exact yN _⟩, ⟨by (with_reducible repeat (first | apply Kd.V_alloc | apply Kd.V_drewN | apply Kd.V_drew)); exact HO2.out⟩, ⟨by repeat (first | (with_reducible first | exact HB.out | apply zJ | apply zD | apply zE) | exact HB.out)⟩⟩
  ·rw [if_neg c6] at H
   have c6b0 : decide (a1 < 1) = false := yD c6
   clear c6
   (first | rw [c6b0] | (simp only [i64_w, i32_w]; rw [c6b0]) | skip)
   by_cases c7 : a1 = 0
   ·rw [if_pos c7] at H
    exact absurd H (by simp)
   ·rw [if_neg c7] at H
    have c7b0 : (a1 == 0) = false := beq_eq_false_iff_ne.mpr c7
    have c7b1 : (a1 != 0) = true := bne_iff_ne.mpr c7
    have H' := zK H
    clear H
    go_wp2
    go_meet
    case rel => exact ⟨_, ((((l0.length : Int) % a1) != 0)), (by first | rfl | (simp; done) | (simp [*]; done)), H', ⟨by first | omega | exact yN _⟩, ⟨by (with_reducible repeat (first | apply Kd.V_alloc | apply Kd.V_drewN | apply Kd.V_drew)); exact HO2.out⟩, ⟨by repeat (first | (with_reducible first | exact HB.out | apply zJ | apply zD | apply zE) | exact HB.out)⟩⟩
 case rest =>
  clear HC5
  try clear c2
  try clear p2
  try clear c6
  try clear c6b0
  try clear c7
  try clear c7b0
  try clear c7b1
  obtain ⟨kq, x29_4, rfl, HA, HJ4, HO_2, HB⟩ := hcut
  cases kq with
  | zero => exact absurd HA.out (by simp [r19_Look.j0])
  | succ kj4 =>
   have H := HA.out
   clear HA
   simp only [r19_Look.j0] at H
   by_cases c8 : x29_4 = true
   ·subst c8
    have H1 : (some ((([] : List Int)), 190)) = some (r1, r2) := by rw [if_pos rfl] at H; exact H
    clear H
    have H := H1
    clear H1
    obtain ⟨y381, hy381⟩ : ∃ y_ : List Int, y_ = (([] : List Int)) := ⟨_, rfl⟩
    replace H : (some (y381, 190)) = some (r1, r2) := by first | (rw [hy381]; with_reducible exact H) | (have H2_ := (yV _ _).symm.trans H; rw [hy381]; with_reducible exact H2_) | (have H2_ := (yV _ _).symm.trans H; with_reducible exact H2_) | with_reducible exact H | (rw [hy381]; exact H) | exact H
    have Ny381 := zK hy381
    clear hy381
    simp only [yZ, ya] at H
    obtain ⟨rfl, rfl⟩ := H
    go_wp2_with (first | ((with_reducible refine gate_dst (N := 30) rfl ?_); refine Kd.R_lit (Kd.int .i8) _ 53 ?hg (N := 30) ?hd (xs := ([] : List Int)) (inner := []) (ok := fun _ => True) (okp := fun _ => True) ?hr ?hp (fun _ hk => hk) trivial (Below.refl _ _) (yN _) (by simp) ?_; (case hd => rfl); (case hg => rfl); (case hr => first | (go_simp; done) | (go_simp; rfl)); (case hp => exact (Reps.none _ _)); intro v382 w9 ho10 hb hg_ hnew_; clear hg_ hnew_; (first | rw [← Ny381.out] at ho10 | (simp only [Int.reduceToNat] at ho10; rw [← Ny381.out] at ho10)); have n0_ := zK (Kd.V_elder' (by (with_reducible repeat (first | apply Kd.V_alloc | apply Kd.V_drewN | apply Kd.V_drew)); exact HO_2.out) (Kd.R_base ho10) hb); have n1_ := zK (Kd.R_lower (Kd.R_newM (M := fun k_ => (w.heap.size ≤ k_)) ho10 (yK (by repeat (first | (with_reducible first | exact HB.out | apply zJ | apply zD | apply zE) | exact HB.out))) (fun k_ h_ => h_)) (yK (by repeat (first | (with_reducible first | exact HB.out | apply zJ | apply zD | apply zE) | exact HB.out)))); have n2_ := zK (yL (by repeat (first | (with_reducible first | exact HB.out | apply zJ | apply zD | apply zE) | exact HB.out)) hb); clear HO_2 HB; have HO_2 := n0_; have HO383 := n1_; have HB := n2_; clear n0_ n1_ n2_ hb ho10))
    go_ret2
    exact ⟨_, by first | rfl | (simp [errW_none, errW_some] <;> rfl) | (simp [*, errW_none, errW_some] <;> rfl), by (with_reducible repeat (first | apply zL | apply zM | apply zN)); exact yd HO383.out (fun _ hk => hk.1), by repeat (first | (with_reducible first | exact HB.out | apply zJ | apply zD | apply zE) | exact HB.out)⟩
   ·replace c8 := yh.mpr c8
    subst c8
    have H1 : (r19_Look.l0 kj4 l0 a1 l2 a3 (([] : List (List Int))) (([] : List (List Int))) 0) = some (r1, r2) := by rw [if_neg (show ¬ (false = true) by decide)] at H; exact H
    clear H
    have H := H1
    clear H1
    obtain ⟨y384, hy384⟩ : ∃ y_ : List (List Int), y_ = (([] : List (List Int))) := ⟨_, rfl⟩
    replace H : (r19_Look.l0 kj4 l0 a1 l2 a3 y384 (([] : List (List Int))) 0) = some (r1, r2) := by first | (rw [hy384]; with_reducible exact H) | (have H2_ := (yV _ _).symm.trans H; rw [hy384]; with_reducible exact H2_) | (have H2_ := (yV _ _).symm.trans H; with_reducible exact H2_) | with_reducible exact H | (rw [hy384]; exact H) | exact H
    have Ny384 := zK hy384
    clear hy384
    obtain ⟨y387, hy387⟩ : ∃ y_ : List (List Int), y_ = (([] : List (List Int))) := ⟨_, rfl⟩
    replace H : (r19_Look.l0 kj4 l0 a1 l2 a3 y384 y387 0) = some (r1, r2) := by first | (rw [hy387]; with_reducible exact H) | (have H2_ := (yV _ _).symm.trans H; rw [hy387]; with_reducible exact H2_) | (have H2_ := (yV _ _).symm.trans H; with_reducible exact H2_) | with_reducible exact H | (rw [hy387]; exact H) | exact H
    have Ny387 := zK hy387
    clear hy387
    have H' := zK H
    clear H
    go_wp2_with (first | ((with_reducible refine gate_dst (N := 31) rfl ?_); refine Kd.N_lit (Kd.slice 53 (Kd.int .i8)) _ 22 ?hg (N' := 31) ?hd (xs := ([] : List (List Int))) (inner := []) (ok := (fun k_ => (P2_ k_ ∨ w.heap.size ≤ k_))) (okp := (fun k_ => (P2_ k_ ∨ w.heap.size ≤ k_))) ?hr ?hp (fun _ hk => hk) ((show ∀ k_, wc.heap.size ≤ k_ → (fun k_ => (P2_ k_ ∨ w.heap.size ≤ k_)) k_ from fun k_ hk => (.inr (yl (yK (by repeat (first | (with_reducible first | exact HB.out | apply zJ | apply zD | apply zE) | exact HB.out))) hk))) _ (yN _)) (Below.refl _ _) (yN _) (by simp) ?_; (case hd => rfl); (case hg => rfl); (case hr => first | (go_simp; done) | (go_simp; rfl)); (case hp => exact (Reps.none _ _)); intro v385 w11 ho12 hb hg_ hnew_; clear hg_ hnew_; (first | rw [← Ny384.out] at ho12 | (simp only [Int.reduceToNat] at ho12; rw [← Ny384.out] at ho12)); have n0_ := zK (Kd.V_elder' (by (with_reducible repeat (first | apply Kd.V_alloc | apply Kd.V_drewN | apply Kd.V_drew)); exact HO_2.out) (Kd.N_base ho12) hb); have n1_ := zK (Kd.N_lower ho12 (yK (by repeat (first | (with_reducible first | exact HB.out | apply zJ | apply zD | apply zE) | exact HB.out)))); have n2_ := zK (yL (by repeat (first | (with_reducible first | exact HB.out | apply zJ | apply zD | apply zE) | exact HB.out)) hb); clear HO_2 HB; have HO_2 := n0_; have HO386 := n1_; have HB := n2_; clear n0_ n1_ n2_ hb ho12) | ((with_reducible refine gate_dst (N := 32) rfl ?_); refine Kd.N_lit (Kd.slice 53 (Kd.int .i8)) _ 22 ?hg (N' := 32) ?hd (xs := ([] : List (List Int))) (inner := []) (ok := (fun k_ => (P2_ k_ ∨ w.heap.size ≤ k_) ∧ some k_ ≠ (v385 : Value).ownBlock)) (okp := (fun k_ => (P2_ k_ ∨ w.heap.size ≤ k_) ∧ some k_ ≠ (v385 : Value).ownBlock)) ?hr ?hp (fun _ hk => hk) ((show ∀ k_, w11.heap.size ≤ k_ → (fun k_ => (P2_ k_ ∨ w.heap.size ≤ k_) ∧ some k_ ≠ (v385 : Value).ownBlock) k_ from fun k_ hk => ⟨(.inr (yl (yK (by repeat (first | (with_reducible first | exact HB.out | apply zJ | apply zD | apply zE) | exact HB.out))) hk)), Kd.fresh' (Kd.N_lt (by (with_reducible repeat (first | apply Kd.N_alloc | apply Kd.N_drewN | apply Kd.N_drew)); exact HO386.out)) k_ hk⟩) _ (yN _)) (Below.refl _ _) (yN _) (by simp) ?_; (case hd => rfl); (case hg => rfl); (case hr => first | (go_simp; done) | (go_simp; rfl)); (case hp => exact (Reps.none _ _)); intro v388 w13 ho14 hb hg_ hnew_; clear hg_ hnew_; (first | rw [← Ny387.out] at ho14 | (simp only [Int.reduceToNat] at ho14; rw [← Ny387.out] at ho14)); have n0_ := zK (Kd.V_elder' (by (with_reducible repeat (first | apply Kd.V_alloc | apply Kd.V_drewN | apply Kd.V_drew)); exact HO_2.out) (Kd.N_base ho14) hb); have n1_ := zK (Kd.N_elder' (by (with_reducible repeat (first | apply Kd.N_alloc | apply Kd.N_drewN | apply Kd.N_drew)); exact HO386.out) (Kd.N_base ho14) hb); have n2_ := zK (Kd.N_lower ho14 (yK (by repeat (first | (with_reducible first | exact HB.out | apply zJ | apply zD | apply zE) | exact HB.out)))); have n3_ := zK (yL (by repeat (first | (with_reducible first | exact HB.out | apply zJ | apply zD | apply zE) | exact HB.out)) hb); clear HO_2 HO386 HB; have HO_2 := n0_; have HO386 := n1_; have HO389 := n2_; have HB := n3_; clear n0_ n1_ n2_ n3_ hb ho14))
    go_loopg [10, 11, 12] kj4 (fun kq v10 v11 v12 w' => ∃ (x10_2 : List (List Int)) (x11_2 : List (List Int)) (x12_2 : Int), v12 = .int .i64 x12_2 ∧ Aside0 (r19_Look.l0 kq l0 a1 l2 a3 x10_2 x11_2 x12_2 = some (r1, r2)) ∧ Aside0 (kq ≤ kj4) ∧ Aside0 (Kd.V k50 50 w' w.heap.size (fun k_ => (P2_ k_ ∨ w.heap.size ≤ k_) ∧ some k_ ≠ (v10 : Value).ownBlock ∧ some k_ ≠ (v11 : Value).ownBlock) (.slice A2 l2.length c2) l2) ∧ Aside0 (Kd.N (Kd.slice 53 (Kd.int .i8)) 22 w' w.heap.size (fun k_ => (P2_ k_ ∨ w.heap.size ≤ k_) ∧ some k_ ≠ (v11 : Value).ownBlock) v10 x10_2) ∧ Aside0 (Kd.N (Kd.slice 53 (Kd.int .i8)) 22 w' w.heap.size (fun k_ => (P2_ k_ ∨ w.heap.size ≤ k_) ∧ some k_ ≠ (v10 : Value).ownBlock) v11 x11_2) ∧ Aside0 (Below w.heap.size w w'))
    case atStart => exact ⟨(y384), (y387), (0), (by first | rfl | (simp; done) | (simp [*]; done)), H', ⟨yN _⟩, ⟨by (with_reducible repeat (first | apply Kd.V_alloc | apply Kd.V_drewN | apply Kd.V_drew)); exact Kd.V_mono HO_2.out (fun _ hk => ⟨hk.1.1, ⟨hk.1.2, hk.2⟩⟩)⟩, ⟨by (with_reducible repeat (first | apply Kd.N_alloc | apply Kd.N_drewN | apply Kd.N_drew)); exact HO386.out⟩, ⟨by (with_reducible repeat (first | apply Kd.N_alloc | apply Kd.N_drewN | apply Kd.N_drew)); exact HO389.out⟩, ⟨by repeat (first | (with_reducible first | exact HB.out | apply zJ | apply zD | apply zE) | exact HB.out)⟩⟩
    case round =>
     clear H'
     try clear c2
     try clear p2
     try clear c6
     try clear c6b0
     try clear c7
     try clear c7b0
     try clear c7b1
     try clear c8
     try clear p2
     obtain ⟨x10_2, x11_2, x12_2, rfl, HA, HK2, HO_2, HO_10, HO_11, HB⟩ := hrel
     cases gk with
     | zero => exact absurd HA.out (by simp [r19_Look.l0])
     | succ k2 =>
      have H := HA.out
      clear HA
      simp only [r19_Look.l0] at H
      by_cases c15 : x12_2 < (l2.length : Int)
      ·rw [if_pos c15] at H
       have c15b0 : decide (x12_2 < (l2.length : Int)) = true := yC c15
       clear c15
       by_cases c16 : 0 ≤ x12_2
       ·rw [if_pos c16] at H
        have c16b0 : decide (0 ≤ x12_2) = true := yC c16
        clear c16
        by_cases c17 : x10_2.length < 5864062014805
        ·rw [if_pos c17] at H
         have LMc17 := zK c17
         clear c17
         obtain ⟨y391, hy391⟩ : ∃ y_ : List (List Int), y_ = (x10_2 ++ [(rd_T50 l2 x12_2).f0]) := ⟨_, rfl⟩
         replace H : (if x11_2.length < 5864062014805 then (r19_Look.l0 k2 l0 a1 l2 a3 y391 (x11_2 ++ [(rd_T50 l2 x12_2).f1]) (wrap64 (x12_2 + 1))) else (none)) = some (r1, r2) := by first | (rw [hy391]; with_reducible exact H) | (have H2_ := (yV _ _).symm.trans H; rw [hy391]; with_reducible exact H2_) | (have H2_ := (yV _ _).symm.trans H; with_reducible exact H2_) | with_reducible exact H | (rw [hy391]; exact H) | exact H
         have Ny391 := zK hy391
         clear hy391
         by_cases c18 : x11_2.length < 5864062014805
         ·rw [if_pos c18] at H
          have LMc18 := zK c18
          clear c18
          obtain ⟨y395, hy395⟩ : ∃ y_ : List (List Int), y_ = (x11_2 ++ [(rd_T50 l2 x12_2).f1]) := ⟨_, rfl⟩
          replace H : (r19_Look.l0 k2 l0 a1 l2 a3 y391 y395 (wrap64 (x12_2 + 1))) = some (r1, r2) := by first | (rw [hy395]; with_reducible exact H) | (have H2_ := (yV _ _).symm.trans H; rw [hy395]; with_reducible exact H2_) | (have H2_ := (yV _ _).symm.trans H; with_reducible exact H2_) | with_reducible exact H | (rw [hy395]; exact H) | exact H
          have Ny395 := zK hy395
          clear hy395
          have H' := zK H
          clear H
          have p390 : 0 ≤ (x12_2 : Int) := yB (by first | (with_reducible assumption) | assumption)
          have q390 : x12_2 < (l2.length : Int) := yB (by first | (with_reducible assumption) | assumption)
          obtain ⟨ad390, A390_0, c390_0, A390_1, c390_1, e390, hx390_0, hx390_1, hl390_0, hi390_0, hl390_1, hi390_1⟩ := at_T50 (Kd.V_reads' HO_2.out).2.2 x12_2 p390 q390
          cases e390
          obtain ⟨ce390, hce390, hMe390, hcc390⟩ := Kd.V_get HO_2.out z50 x12_2 p390 (by first | exact q390 | exact yB (by first | (with_reducible assumption) | assumption) | (have e_ := (Kd.V_reads' HO_2.out).1; omega))
          obtain ⟨ua390_0, uc390_0, ua390_1, uc390_1, rfl, ul390_0, ge390_0, ul390_1, ge390_1⟩ := k50_openF hMe390
          have hv390_0 := hcc390 0 _ rfl
          rw [Nat.add_zero] at hv390_0
          replace hv390_0 := yY (hv390_0.symm.trans hx390_0)
          injection hv390_0 with hva_ hvn_ hvc_
          rw [hva_] at ge390_0
          rw [hvc_] at ul390_0
          have HL390_0 := zK (show Kd.V (Kd.int .i8) 53 _ w.heap.size _ _ ((rd_T50 l2 x12_2).f0) from Kd.V_mk ul390_0 ge390_0)
          clear hva_ hvn_ hvc_ ge390_0 ul390_0
          have hv390_1 := hcc390 1 _ rfl
          rw [add_field _ _ 1 (by omega)] at hv390_1
          replace hv390_1 := yY (hv390_1.symm.trans hx390_1)
          injection hv390_1 with hva_ hvn_ hvc_
          rw [hva_] at ge390_1
          rw [hvc_] at ul390_1
          have HL390_1 := zK (show Kd.V (Kd.int .i8) 53 _ w.heap.size _ _ ((rd_T50 l2 x12_2).f1) from Kd.V_mk ul390_1 ge390_1)
          clear hva_ hvn_ hvc_ ge390_1 ul390_1 hcc390 hce390
          have HR390_0 := zK hi390_0
          have HC390_0 := zK hl390_0
          clear hi390_0 hl390_0
          have HR390_1 := zK hi390_1
          have HC390_1 := zK hl390_1
          clear hi390_1 hl390_1
          replace p390 := yg p390
          replace q390 := yg q390
          go_wp2_with (first | ((with_reducible refine gate_builtin (b := .append) (xs := #[.tmp 39, .tmp 45]) rfl ?_); at_builtin; refine Kd.N_append (Kd.slice 53 (Kd.int .i8)) (w0 := w) w.heap.size rfl (.tmp 39) (.tmp 45) 23 22 (.slice none 0 0) 24 rfl Try.underlying23 info22 rfl (by decide) (by omega) u10 x10_2 ((rd_T50 l2 x12_2).f0) [.slice A390_0 ((rd_T50 l2 x12_2).f0).length c390_0] (fun k_ => (P2_ k_ ∨ w.heap.size ≤ k_) ∧ some k_ ≠ (u11 : Value).ownBlock) (fun k_ => ((fun k_ => (P2_ k_ ∨ w.heap.size ≤ k_) ∧ some k_ ≠ (u11 : Value).ownBlock)) k_ ∧ some k_ ≠ (u10 : Value).ownBlock) rfl rfl ?aP (fun _ hk => hk) ?aF ?aO ?aB ?aS ?aL ?_; (case aP => exact (Kd.FK_slice_mk (Kd.V_reads' (Kd.V_mono (ok' := (fun k_ => ((fun k_ => (P2_ k_ ∨ w.heap.size ≤ k_) ∧ some k_ ≠ (u11 : Value).ownBlock)) k_ ∧ some k_ ≠ (u10 : Value).ownBlock)) (HL390_0.out) (fun k_ hk => ⟨⟨hk.1, hk.2.2⟩, hk.2.1⟩))).2.1 (Kd.V_F (Kd.V_mono (ok' := (fun k_ => ((fun k_ => (P2_ k_ ∨ w.heap.size ≤ k_) ∧ some k_ ≠ (u11 : Value).ownBlock)) k_ ∧ some k_ ≠ (u10 : Value).ownBlock)) (HL390_0.out) (fun k_ hk => ⟨⟨hk.1, hk.2.2⟩, hk.2.1⟩))))); (case aB => exact (by repeat (first | (with_reducible first | exact HB.out | apply zJ | apply zD | apply zE) | exact HB.out))); (case aF => exact (fun k_ hk => ⟨(.inr (yl (yK (by repeat (first | (with_reducible first | exact HB.out | apply zJ | apply zD | apply zE) | exact HB.out))) hk)), Kd.fresh' (Kd.N_lt (by (with_reducible repeat (first | apply Kd.N_alloc | apply Kd.N_drewN | apply Kd.N_drew)); exact HO_11.out)) k_ hk⟩)); (case aO => exact (by (with_reducible repeat (first | apply Kd.N_alloc | apply Kd.N_drewN | apply Kd.N_drew)); exact HO_10.out)); (case aS => exact (yK (by repeat (first | (with_reducible first | exact HB.out | apply zJ | apply zD | apply zE) | exact HB.out)))); (case aL => have := LMc17.out; omega); intro v392 w19 ho hb hg hat; rw [← Ny391.out] at ho; have n0_ := zK (Kd.V_afterv (ok := (fun k_ => (P2_ k_ ∨ w.heap.size ≤ k_) ∧ some k_ ≠ (u11 : Value).ownBlock)) (by (with_reducible repeat (first | apply Kd.V_alloc | apply Kd.V_drewN | apply Kd.V_drew)); exact Kd.V_mono HO_2.out (fun _ hk => ⟨⟨hk.1, hk.2.2⟩, hk.2.1⟩)) hg hat); have n1_ := zK (Kd.N_afterv (ok := (fun k_ => (P2_ k_ ∨ w.heap.size ≤ k_))) (by (with_reducible repeat (first | apply Kd.N_alloc | apply Kd.N_drewN | apply Kd.N_drew)); exact HO_11.out) hg hat); have n2_ := zK (Kd.V_afterv (ok := (fun k_ => (P2_ k_ ∨ w.heap.size ≤ k_) ∧ some k_ ≠ (u11 : Value).ownBlock)) (by (with_reducible repeat (first | apply Kd.V_alloc | apply Kd.V_drewN | apply Kd.V_drew)); exact Kd.V_mono HL390_0.out (fun _ hk => ⟨⟨hk.1, hk.2.2⟩, hk.2.1⟩)) hg hat); have n3_ := zK (Kd.V_afterv (ok := (fun k_ => (P2_ k_ ∨ w.heap.size ≤ k_) ∧ some k_ ≠ (u11 : Value).ownBlock)) (by (with_reducible repeat (first | apply Kd.V_alloc | apply Kd.V_drewN | apply Kd.V_drew)); exact Kd.V_mono HL390_1.out (fun _ hk => ⟨⟨hk.1, hk.2.2⟩, hk.2.1⟩)) hg hat); have n4_ := zK (hb); have n5_ := zK (ho); clear HO_2 HO_11 HL390_0 HL390_1 HB HO_10; have HO_2 := n0_; have HO_11 := n1_; have HL390_0 := n2_; have HL390_1 := n3_; have HB := n4_; have HO393 := n5_; clear n0_ n1_ n2_ n3_ n4_ n5_ ho hb hg hat; have p394 : 0 ≤ (x12_2 : Int) := yB (by first | (with_reducible assumption) | assumption); have q394 : x12_2 < (l2.length : Int) := yB (by first | (with_reducible assumption) | assumption); obtain ⟨ad394, A394_0, c394_0, A394_1, c394_1, e394, hx394_0, hx394_1, hl394_0, hi394_0, hl394_1, hi394_1⟩ := at_T50 (Kd.V_reads' HO_2.out).2.2 x12_2 p394 q394; obtain rfl : ad390 = ad394 := (by injection e394); obtain ⟨ce394, hce394, hMe394, hcc394⟩ := Kd.V_get HO_2.out z50 x12_2 p394 (by first | exact q394 | exact yB (by first | (with_reducible assumption) | assumption) | (have e_ := (Kd.V_reads' HO_2.out).1; omega)); obtain ⟨ua394_0, uc394_0, ua394_1, uc394_1, rfl, ul394_0, ge394_0, ul394_1, ge394_1⟩ := k50_openF hMe394; have hv394_0 := hcc394 0 _ rfl; rw [Nat.add_zero] at hv394_0; replace hv394_0 := yY (hv394_0.symm.trans hx394_0); injection hv394_0 with hva_ hvn_ hvc_; rw [hva_] at ge394_0; rw [hvc_] at ul394_0; have HL394_0 := zK (show Kd.V (Kd.int .i8) 53 _ w.heap.size _ _ ((rd_T50 l2 x12_2).f0) from Kd.V_mk ul394_0 ge394_0); clear hva_ hvn_ hvc_ ge394_0 ul394_0; have hv394_1 := hcc394 1 _ rfl; rw [add_field _ _ 1 (by omega)] at hv394_1; replace hv394_1 := yY (hv394_1.symm.trans hx394_1); injection hv394_1 with hva_ hvn_ hvc_; rw [hva_] at ge394_1; rw [hvc_] at ul394_1; have HL394_1 := zK (show Kd.V (Kd.int .i8) 53 _ w.heap.size _ _ ((rd_T50 l2 x12_2).f1) from Kd.V_mk ul394_1 ge394_1); clear hva_ hvn_ hvc_ ge394_1 ul394_1 hcc394 hce394; have HR394_0 := zK hi394_0; have HC394_0 := zK hl394_0; clear hi394_0 hl394_0; have HR394_1 := zK hi394_1; have HC394_1 := zK hl394_1; clear hi394_1 hl394_1; replace p394 := yg p394; replace q394 := yg q394) | ((with_reducible refine gate_builtin (b := .append) (xs := #[.tmp 47, .tmp 53]) rfl ?_); at_builtin; refine Kd.N_append (Kd.slice 53 (Kd.int .i8)) (w0 := w) w.heap.size rfl (.tmp 47) (.tmp 53) 23 22 (.slice none 0 0) 24 rfl Try.underlying23 info22 rfl (by decide) (by omega) u11 x11_2 ((rd_T50 l2 x12_2).f1) [.slice A394_1 ((rd_T50 l2 x12_2).f1).length c394_1] (fun k_ => (P2_ k_ ∨ w.heap.size ≤ k_) ∧ some k_ ≠ (v392 : Value).ownBlock) (fun k_ => ((fun k_ => (P2_ k_ ∨ w.heap.size ≤ k_) ∧ some k_ ≠ (v392 : Value).ownBlock)) k_ ∧ some k_ ≠ (u11 : Value).ownBlock) rfl rfl ?aP (fun _ hk => hk) ?aF ?aO ?aB ?aS ?aL ?_; (case aP => exact (Kd.FK_slice_mk (Kd.V_reads' (Kd.V_mono (ok' := (fun k_ => ((fun k_ => (P2_ k_ ∨ w.heap.size ≤ k_) ∧ some k_ ≠ (v392 : Value).ownBlock)) k_ ∧ some k_ ≠ (u11 : Value).ownBlock)) (HL394_1.out) (fun k_ hk => ⟨⟨hk.1.1, hk.2⟩, hk.1.2⟩))).2.1 (Kd.V_F (Kd.V_mono (ok' := (fun k_ => ((fun k_ => (P2_ k_ ∨ w.heap.size ≤ k_) ∧ some k_ ≠ (v392 : Value).ownBlock)) k_ ∧ some k_ ≠ (u11 : Value).ownBlock)) (HL394_1.out) (fun k_ hk => ⟨⟨hk.1.1, hk.2⟩, hk.1.2⟩))))); (case aB => exact (by repeat (first | (with_reducible first | exact HB.out | apply zJ | apply zD | apply zE) | exact HB.out))); (case aF => exact (fun k_ hk => ⟨(.inr (yl (yK (by repeat (first | (with_reducible first | exact HB.out | apply zJ | apply zD | apply zE) | exact HB.out))) hk)), Kd.fresh' (Kd.N_lt (by (with_reducible repeat (first | apply Kd.N_alloc | apply Kd.N_drewN | apply Kd.N_drew)); exact HO393.out)) k_ hk⟩)); (case aO => exact (by (with_reducible repeat (first | apply Kd.N_alloc | apply Kd.N_drewN | apply Kd.N_drew)); exact HO_11.out)); (case aS => exact (yK (by repeat (first | (with_reducible first | exact HB.out | apply zJ | apply zD | apply zE) | exact HB.out)))); (case aL => have := LMc18.out; omega); intro v396 w20 ho hb hg hat; rw [← Ny395.out] at ho; have n0_ := zK (Kd.V_afterv (ok := (fun k_ => (P2_ k_ ∨ w.heap.size ≤ k_) ∧ some k_ ≠ (v392 : Value).ownBlock)) (by (with_reducible repeat (first | apply Kd.V_alloc | apply Kd.V_drewN | apply Kd.V_drew)); exact Kd.V_mono HO_2.out (fun _ hk => ⟨⟨hk.1.1, hk.2⟩, hk.1.2⟩)) hg hat); have n1_ := zK (Kd.V_afterv (ok := (fun k_ => (P2_ k_ ∨ w.heap.size ≤ k_) ∧ some k_ ≠ (v392 : Value).ownBlock)) (by (with_reducible repeat (first | apply Kd.V_alloc | apply Kd.V_drewN | apply Kd.V_drew)); exact Kd.V_mono HL390_0.out (fun _ hk => ⟨⟨hk.1.1, hk.2⟩, hk.1.2⟩)) hg hat); have n2_ := zK (Kd.V_afterv (ok := (fun k_ => (P2_ k_ ∨ w.heap.size ≤ k_) ∧ some k_ ≠ (v392 : Value).ownBlock)) (by (with_reducible repeat (first | apply Kd.V_alloc | apply Kd.V_drewN | apply Kd.V_drew)); exact Kd.V_mono HL390_1.out (fun _ hk => ⟨⟨hk.1.1, hk.2⟩, hk.1.2⟩)) hg hat); have n3_ := zK (Kd.N_afterv (ok := (fun k_ => (P2_ k_ ∨ w.heap.size ≤ k_))) (by (with_reducible repeat (first | apply Kd.N_alloc | apply Kd.N_drewN | apply Kd.N_drew)); exact HO393.out) hg hat); have n4_ := zK (Kd.V_afterv (ok := (fun k_ => (P2_ k_ ∨ w.heap.size ≤ k_) ∧ some k_ ≠ (v392 : Value).ownBlock)) (by (with_reducible repeat (first | apply Kd.V_alloc | apply Kd.V_drewN | apply Kd.V_drew)); exact Kd.V_mono HL394_0.out (fun _ hk => ⟨⟨hk.1.1, hk.2⟩, hk.1.2⟩)) hg hat); have n5_ := zK (Kd.V_afterv (ok := (fun k_ => (P2_ k_ ∨ w.heap.size ≤ k_) ∧ some k_ ≠ (v392 : Value).ownBlock)) (by (with_reducible repeat (first | apply Kd.V_alloc | apply Kd.V_drewN | apply Kd.V_drew)); exact Kd.V_mono HL394_1.out (fun _ hk => ⟨⟨hk.1.1, hk.2⟩, hk.1.2⟩)) hg hat); have n6_ := zK (hb); have n7_ := zK (ho); clear HO_2 HL390_0 HL390_1 HO393 HL394_0 HL394_1 HB HO_11; have HO_2 := n0_; have HL390_0 := n1_; have HL390_1 := n2_; have HO393 := n3_; have HL394_0 := n4_; have HL394_1 := n5_; have HB := n6_; have HO397 := n7_; clear n0_ n1_ n2_ n3_ n4_ n5_ n6_ n7_ ho hb hg hat))
          go_roundg k2
          case measure => have := HJ4.out; have := HK2.out; omega
          case rel => exact ⟨(y391), (y395), (wrap64 (x12_2 + 1)), (by first | rfl | (simp; done) | (simp [*]; done)), H', ⟨by have := HJ4.out; have := HK2.out; omega⟩, ⟨by (with_reducible repeat (first | apply Kd.V_alloc | apply Kd.V_drewN | apply Kd.V_drew)); exact Kd.V_mono HO_2.out (fun _ hk => ⟨hk.1.1, ⟨hk.1.2, hk.2⟩⟩)⟩, ⟨by (with_reducible repeat (first | apply Kd.N_alloc | apply Kd.N_drewN | apply Kd.N_drew)); exact HO393.out⟩, ⟨by (with_reducible repeat (first | apply Kd.N_alloc | apply Kd.N_drewN | apply Kd.N_drew)); exact HO397.out⟩, ⟨by repeat (first | (with_reducible first | exact HB.out | apply zJ | apply zD | apply zE) | exact HB.out)⟩⟩
         ·rw [if_neg c18] at H
          exact absurd H (by simp)
        ·rw [if_neg c17] at H
         exact absurd H (by simp)
       ·rw [if_neg c16] at H
        exact absurd H (by simp)
      ·rw [if_neg c15] at H
       have c15b0 : decide (x12_2 < (l2.length : Int)) = false := yD c15
       clear c15
       have HC21 := zK H
       clear H
       go_upto_region 9 with (fail)
       go_cut [62] (fun v62 wc => ∃ (kq : Nat) (x62_20 : Bool), v62 = .bool x62_20 ∧ Aside0 (r19_Look.j2 kq l0 a1 l2 a3 x10_2 x11_2 x62_20 = some (r1, r2)) ∧ Aside0 (kq ≤ k2) ∧ Aside0 (Kd.V k50 50 wc w.heap.size (fun k_ => (P2_ k_ ∨ w.heap.size ≤ k_) ∧ some k_ ≠ (u10 : Value).ownBlock ∧ some k_ ≠ (u11 : Value).ownBlock) (.slice A2 l2.length c2) l2) ∧ Aside0 (Kd.N (Kd.slice 53 (Kd.int .i8)) 22 wc w.heap.size (fun k_ => (P2_ k_ ∨ w.heap.size ≤ k_) ∧ some k_ ≠ (u11 : Value).ownBlock) u10 x10_2) ∧ Aside0 (Kd.N (Kd.slice 53 (Kd.int .i8)) 22 wc w.heap.size (fun k_ => (P2_ k_ ∨ w.heap.size ≤ k_) ∧ some k_ ≠ (u10 : Value).ownBlock) u11 x11_2) ∧ Aside0 (Below w.heap.size w wc))
       case first =>
        have H := HC21.out
        clear HC21
        replace H := yA.mp H
        obtain ⟨t398, A220, H⟩ := H
        replace H : (if t398 = true then (r19_Look.j2 k2 l0 a1 l2 a3 x10_2 x11_2 true) else ((r19_wrong.f k2 l0 x11_2).bind fun t399 => (r19_Look.j2 k2 l0 a1 l2 a3 x10_2 x11_2 t399))) = some (r1, r2) := H
        have A22 := zK A220
        clear A220
        by_cases c23 : t398 = true
        ·subst c23
         have H1 : (r19_Look.j2 k2 l0 a1 l2 a3 x10_2 x11_2 true) = some (r1, r2) := by rw [if_pos rfl] at H; exact H
         clear H
         have H := H1
         clear H1
         have H' := zK H
         clear H
         obtain ⟨Ao24, co24, eo24⟩ := Kd.N_slice HO_10.out
         subst eo24
         go_wp2_with (first | ((with_reducible refine gate_callee (f := 30) rfl ?_); refine goesL_ (some 57) rfl rfl Try.func30 (by kernel_rfl) rfl #[.slice A0 l0.length c0, .slice Ao24 x10_2.length co24] rfl (by (try simp only [yH, yI, yJ]); first | done | rfl | (simp only [yG, yF]; rfl)) ?_; (with_reducible refine (r19_wrong.calls k2 _ _ l0 _ _ x10_2 true _ ?side1 ?side2 ?side3 ?side4 A22.out).mono ?_); (case side1 => repeat (first | exact (yc HR0.out HB.out) | (with_reducible refine yS ?_ _) | (with_reducible refine yT ?_ _) | (with_reducible refine yU ?_))); (case side2 => exact HC0.out); (case side3 => repeat (first | exact (Kd.N_reads' HO_10.out).2.2 | (with_reducible refine yS ?_ _) | (with_reducible refine yT ?_ _) | (with_reducible refine yU ?_))); (case side4 => exact (Kd.N_reads' HO_10.out).2.1); rintro e w' ⟨rfl, ⟨nd, rfl⟩⟩; refine ⟨_, rfl, ?_⟩))
         go_meet
         case rel => exact ⟨_, (true), (by first | rfl | (simp; done) | (simp [*]; done)), H', ⟨by have := HJ4.out; have := HK2.out; first | omega | exact yN _⟩, ⟨by (with_reducible repeat (first | apply Kd.V_alloc | apply Kd.V_drewN | apply Kd.V_drew)); exact HO_2.out⟩, ⟨by (with_reducible repeat (first | apply Kd.N_alloc | apply Kd.N_drewN | apply Kd.N_drew)); exact HO_10.out⟩, ⟨by (with_reducible repeat (first | apply Kd.N_alloc | apply Kd.N_drewN | apply Kd.N_drew)); exact HO_11.out⟩, ⟨by repeat (first | (with_reducible first | exact HB.out | apply zJ | apply zD | apply zE) | exact HB.out)⟩⟩
        ·replace c23 := yh.mpr c23
         subst c23
         have H1 : ((r19_wrong.f k2 l0 x11_2).bind fun t399 => (r19_Look.j2 k2 l0 a1 l2 a3 x10_2 x11_2 t399)) = some (r1, r2) := by rw [if_neg (show ¬ (false = true) by decide)] at H; exact H
         clear H
         have H := H1
         clear H1
         replace H := yA.mp H
         obtain ⟨t399, A250, H⟩ := H
         replace H : (r19_Look.j2 k2 l0 a1 l2 a3 x10_2 x11_2 t399) = some (r1, r2) := H
         have A25 := zK A250
         clear A250
         have H' := zK H
         clear H
         obtain ⟨Ao26, co26, eo26⟩ := Kd.N_slice HO_10.out
         subst eo26
         go_wp2_with (first | ((with_reducible refine gate_callee (f := 30) rfl ?_); refine goesL_ (some 57) rfl rfl Try.func30 (by kernel_rfl) rfl #[.slice A0 l0.length c0, .slice Ao26 x10_2.length co26] rfl (by (try simp only [yH, yI, yJ]); first | done | rfl | (simp only [yG, yF]; rfl)) ?_; (with_reducible refine (r19_wrong.calls k2 _ _ l0 _ _ x10_2 false _ ?side1 ?side2 ?side3 ?side4 A22.out).mono ?_); (case side1 => repeat (first | exact (yc HR0.out HB.out) | (with_reducible refine yS ?_ _) | (with_reducible refine yT ?_ _) | (with_reducible refine yU ?_))); (case side2 => exact HC0.out); (case side3 => repeat (first | exact (Kd.N_reads' HO_10.out).2.2 | (with_reducible refine yS ?_ _) | (with_reducible refine yT ?_ _) | (with_reducible refine yU ?_))); (case side4 => exact (Kd.N_reads' HO_10.out).2.1); rintro e w' ⟨rfl, ⟨nd, rfl⟩⟩; refine ⟨_, rfl, ?_⟩; obtain ⟨Ao27, co27, eo27⟩ := Kd.N_slice HO_11.out; subst eo27) | (go_at_call 30; (with_reducible refine (r19_wrong.calls k2 _ _ l0 _ _ x11_2 t399 _ ?side1 ?side2 ?side3 ?side4 A25.out).mono ?_); (case side1 => repeat (first | exact (yc HR0.out (by repeat (first | (with_reducible first | exact HB.out | apply zJ | apply zD | apply zE) | exact HB.out))) | (with_reducible refine yS ?_ _) | (with_reducible refine yT ?_ _) | (with_reducible refine yU ?_))); (case side2 => exact HC0.out); (case side3 => repeat (first | exact (Kd.N_reads' HO_11.out).2.2 | (with_reducible refine yS ?_ _) | (with_reducible refine yT ?_ _) | (with_reducible refine yU ?_))); (case side4 => exact (Kd.N_reads' HO_11.out).2.1); rintro e w' ⟨rfl, ⟨nd, rfl⟩⟩))
         go_meet
         case rel => exact ⟨_, (t399), (by first | rfl | (simp; done) | (simp [*]; done)), H', ⟨by have := HJ4.out; have := HK2.out; first | omega | exact yN _⟩, ⟨by (with_reducible repeat (first | apply Kd.V_alloc | apply Kd.V_drewN | apply Kd.V_drew)); exact HO_2.out⟩, ⟨by (with_reducible repeat (first | apply Kd.N_alloc | apply Kd.N_drewN | apply Kd.N_drew)); exact HO_10.out⟩, ⟨by (with_reducible repeat (first | apply Kd.N_alloc | apply Kd.N_drewN | apply Kd.N_drew)); exact HO_11.out⟩, ⟨by repeat (first | (with_reducible first | exact HB.out | apply zJ | apply zD | apply zE) | exact HB.out)⟩⟩
       case rest =>
        clear HC21
        try clear c1
        try clear c2
        try clear p2
        try clear c3
        try clear p3
        try clear q3
        try clear hx3
        try clear c6
        try clear c6b0
        try clear p6
        try clear c7
        try clear c7b0
        try clear c7b1
        try clear c8
        try clear c15
        try clear c15b0
        try clear c16
        try clear c16b0
        try clear c17
        try clear c18
        try clear c20
        try clear c23
        try clear hx390_0
        try clear hx390_1
        try clear hx394_0
        try clear hx394_1
        try clear p2
        try clear p390
        try clear p394
        try clear q390
        try clear q394
        obtain ⟨kq, x62_20, rfl, HA, HJ20, HO_2, HO_10, HO_11, HB⟩ := hcut
        cases kq with
        | zero => exact absurd HA.out (by simp [r19_Look.j2])
        | succ kj20 =>
         have H := HA.out
         clear HA
         simp only [r19_Look.j2] at H
         by_cases c28 : x62_20 = true
         ·subst c28
          have H1 : (some ((([] : List Int)), 191)) = some (r1, r2) := by rw [if_pos rfl] at H; exact H
          clear H
          have H := H1
          clear H1
          obtain ⟨y400, hy400⟩ : ∃ y_ : List Int, y_ = (([] : List Int)) := ⟨_, rfl⟩
          replace H : (some (y400, 191)) = some (r1, r2) := by first | (rw [hy400]; with_reducible exact H) | (have H2_ := (yV _ _).symm.trans H; rw [hy400]; with_reducible exact H2_) | (have H2_ := (yV _ _).symm.trans H; with_reducible exact H2_) | with_reducible exact H | (rw [hy400]; exact H) | exact H
          have Ny400 := zK hy400
          clear hy400
          simp only [yZ, ya] at H
          obtain ⟨rfl, rfl⟩ := H
          go_wp2_with (first | ((with_reducible refine gate_dst (N := 63) rfl ?_); refine Kd.R_lit (Kd.int .i8) _ 53 ?hg (N := 63) ?hd (xs := ([] : List Int)) (inner := []) (ok := fun _ => True) (okp := fun _ => True) ?hr ?hp (fun _ hk => hk) trivial (Below.refl _ _) (yN _) (by simp) ?_; (case hd => rfl); (case hg => rfl); (case hr => first | (go_simp; done) | (go_simp; rfl)); (case hp => exact (Reps.none _ _)); intro v401 w29 ho30 hb hg_ hnew_; clear hg_ hnew_; (first | rw [← Ny400.out] at ho30 | (simp only [Int.reduceToNat] at ho30; rw [← Ny400.out] at ho30)); have n0_ := zK (Kd.V_elder' (by (with_reducible repeat (first | apply Kd.V_alloc | apply Kd.V_drewN | apply Kd.V_drew)); exact HO_2.out) (Kd.R_base ho30) hb); have n1_ := zK (Kd.N_elder' (by (with_reducible repeat (first | apply Kd.N_alloc | apply Kd.N_drewN | apply Kd.N_drew)); exact HO_10.out) (Kd.R_base ho30) hb); have n2_ := zK (Kd.N_elder' (by (with_reducible repeat (first | apply Kd.N_alloc | apply Kd.N_drewN | apply Kd.N_drew)); exact HO_11.out) (Kd.R_base ho30) hb); have n3_ := zK (Kd.R_lower (Kd.R_newM (M := fun k_ => (w.heap.size ≤ k_)) ho30 (yK (by repeat (first | (with_reducible first | exact HB.out | apply zJ | apply zD | apply zE) | exact HB.out))) (fun k_ h_ => h_)) (yK (by repeat (first | (with_reducible first | exact HB.out | apply zJ | apply zD | apply zE) | exact HB.out)))); have n4_ := zK (yL (by repeat (first | (with_reducible first | exact HB.out | apply zJ | apply zD | apply zE) | exact HB.out)) hb); clear HO_2 HO_10 HO_11 HB; have HO_2 := n0_; have HO_10 := n1_; have HO_11 := n2_; have HO402 := n3_; have HB := n4_; clear n0_ n1_ n2_ n3_ n4_ hb ho30))
          go_ret2
          exact ⟨_, by first | rfl | (simp [errW_none, errW_some] <;> rfl) | (simp [*, errW_none, errW_some] <;> rfl), by (with_reducible repeat (first | apply zL | apply zM | apply zN)); exact yd HO402.out (fun _ hk => hk.1), by repeat (first | (with_reducible first | exact HB.out | apply zJ | apply zD | apply zE) | exact HB.out)⟩
         ·replace c28 := yh.mpr c28
          subst c28
          have H1 : (if a3 < 0 then (r19_Look.j3 kj20 l0 a1 l2 a3 x10_2 x11_2 true) else (r19_Look.j3 kj20 l0 a1 l2 a3 x10_2 x11_2 (decide (a3 > 31)))) = some (r1, r2) := by rw [if_neg (show ¬ (false = true) by decide)] at H; exact H
          clear H
          have H := H1
          clear H1
          have HC31 := zK H
          clear H
          go_upto_region 11 with (fail)
          go_cut [69] (fun v69 wc => ∃ (kq : Nat) (x69_30 : Bool), v69 = .bool x69_30 ∧ Aside0 (r19_Look.j3 kq l0 a1 l2 a3 x10_2 x11_2 x69_30 = some (r1, r2)) ∧ Aside0 (kq ≤ kj20) ∧ Aside0 (Kd.V k50 50 wc w.heap.size (fun k_ => (P2_ k_ ∨ w.heap.size ≤ k_) ∧ some k_ ≠ (u10 : Value).ownBlock ∧ some k_ ≠ (u11 : Value).ownBlock) (.slice A2 l2.length c2) l2) ∧ Aside0 (Kd.N (Kd.slice 53 (Kd.int .i8)) 22 wc w.heap.size (fun k_ => (P2_ k_ ∨ w.heap.size ≤ k_) ∧ some k_ ≠ (u11 : Value).ownBlock) u10 x10_2) ∧ Aside0 (Kd.N (Kd.slice 53 (Kd.int .i8)) 22 wc w.heap.size (fun k_ => (P2_ k_ ∨ w.heap.size ≤ k_) ∧ some k_ ≠ (u10 : Value).ownBlock) u11 x11_2) ∧ Aside0 (Below w.heap.size w wc))
          case first =>
           have H := HC31.out
           clear HC31
           by_cases c32 : a3 < 0
           ·rw [if_pos c32] at H
            have c32b0 : decide (a3 < 0) = true := yC c32
            clear c32
            (first | rw [c32b0] | (simp only [i64_w, i32_w]; rw [c32b0]) | skip)
            have H' := zK H
            clear H
            go_wp2
            go_meet
            case rel => exact ⟨_, (true), (by first | rfl | (simp; done) | (simp [*]; done)), H', ⟨by have := HJ4.out; have := HK2.out; have := HJ20.out; first | omega | exact yN _⟩, ⟨by (with_reducible repeat (first | apply Kd.V_alloc | apply Kd.V_drewN | apply Kd.V_drew)); exact HO_2.out⟩, ⟨by (with_reducible repeat (first | apply Kd.N_alloc | apply Kd.N_drewN | apply Kd.N_drew)); exact HO_10.out⟩, ⟨by (with_reducible repeat (first | apply Kd.N_alloc | apply Kd.N_drewN | apply Kd.N_drew)); exact HO_11.out⟩, ⟨by repeat (first | (with_reducible first | exact HB.out | apply zJ | apply zD | apply zE) | exact HB.out)⟩⟩
           ·rw [if_neg c32] at H
            have c32b0 : decide (a3 < 0) = false := yD c32
            clear c32
            (first | rw [c32b0] | (simp only [i64_w, i32_w]; rw [c32b0]) | skip)
            have H' := zK H
            clear H
            go_wp2
            go_meet
            case rel => exact ⟨_, (decide (a3 > 31)), (by first | rfl | (simp; done) | (simp [*]; done)), H', ⟨by have := HJ4.out; have := HK2.out; have := HJ20.out; first | omega | exact yN _⟩, ⟨by (with_reducible repeat (first | apply Kd.V_alloc | apply Kd.V_drewN | apply Kd.V_drew)); exact HO_2.out⟩, ⟨by (with_reducible repeat (first | apply Kd.N_alloc | apply Kd.N_drewN | apply Kd.N_drew)); exact HO_10.out⟩, ⟨by (with_reducible repeat (first | apply Kd.N_alloc | apply Kd.N_drewN | apply Kd.N_drew)); exact HO_11.out⟩, ⟨by repeat (first | (with_reducible first | exact HB.out | apply zJ | apply zD | apply zE) | exact HB.out)⟩⟩
          case rest =>
           clear HC31
           try clear c1
           try clear c2
           try clear p2
           try clear c3
           try clear p3
           try clear q3
           try clear hx3
           try clear c6
           try clear c6b0
           try clear p6
           try clear c7
           try clear c7b0
           try clear c7b1
           try clear c8
           try clear c15
           try clear c15b0
           try clear c16
           try clear c16b0
           try clear c17
           try clear c18
           try clear c20
           try clear c23
           try clear c28
           try clear c30
           try clear c32
           try clear c32b0
           try clear hx390_0
           try clear hx390_1
           try clear hx394_0
           try clear hx394_1
           try clear p2
           try clear p3
           try clear p390
           try clear p394
           try clear p6
           try clear q3
           try clear q390
           try clear q394
           obtain ⟨kq, x69_30, rfl, HA, HJ30, HO_2, HO_10, HO_11, HB⟩ := hcut
           cases kq with
           | zero => exact absurd HA.out (by simp [r19_Look.j3])
           | succ kj30 =>
            have H := HA.out
            clear HA
            simp only [r19_Look.j3] at H
            by_cases c33 : x69_30 = true
            ·subst c33
             have H1 : (some ((([] : List Int)), 20)) = some (r1, r2) := by rw [if_pos rfl] at H; exact H
             clear H
             have H := H1
             clear H1
             obtain ⟨y403, hy403⟩ : ∃ y_ : List Int, y_ = (([] : List Int)) := ⟨_, rfl⟩
             replace H : (some (y403, 20)) = some (r1, r2) := by first | (rw [hy403]; with_reducible exact H) | (have H2_ := (yV _ _).symm.trans H; rw [hy403]; with_reducible exact H2_) | (have H2_ := (yV _ _).symm.trans H; with_reducible exact H2_) | with_reducible exact H | (rw [hy403]; exact H) | exact H
             have Ny403 := zK hy403
             clear hy403
             simp only [yZ, ya] at H
             obtain ⟨rfl, rfl⟩ := H
             go_wp2_with (first | ((with_reducible refine gate_dst (N := 70) rfl ?_); refine Kd.R_lit (Kd.int .i8) _ 53 ?hg (N := 70) ?hd (xs := ([] : List Int)) (inner := []) (ok := fun _ => True) (okp := fun _ => True) ?hr ?hp (fun _ hk => hk) trivial (Below.refl _ _) (yN _) (by simp) ?_; (case hd => rfl); (case hg => rfl); (case hr => first | (go_simp; done) | (go_simp; rfl)); (case hp => exact (Reps.none _ _)); intro v404 w34 ho35 hb hg_ hnew_; clear hg_ hnew_; (first | rw [← Ny403.out] at ho35 | (simp only [Int.reduceToNat] at ho35; rw [← Ny403.out] at ho35)); have n0_ := zK (Kd.V_elder' (by (with_reducible repeat (first | apply Kd.V_alloc | apply Kd.V_drewN | apply Kd.V_drew)); exact HO_2.out) (Kd.R_base ho35) hb); have n1_ := zK (Kd.N_elder' (by (with_reducible repeat (first | apply Kd.N_alloc | apply Kd.N_drewN | apply Kd.N_drew)); exact HO_10.out) (Kd.R_base ho35) hb); have n2_ := zK (Kd.N_elder' (by (with_reducible repeat (first | apply Kd.N_alloc | apply Kd.N_drewN | apply Kd.N_drew)); exact HO_11.out) (Kd.R_base ho35) hb); have n3_ := zK (Kd.R_lower (Kd.R_newM (M := fun k_ => (w.heap.size ≤ k_)) ho35 (yK (by repeat (first | (with_reducible first | exact HB.out | apply zJ | apply zD | apply zE) | exact HB.out))) (fun k_ h_ => h_)) (yK (by repeat (first | (with_reducible first | exact HB.out | apply zJ | apply zD | apply zE) | exact HB.out)))); have n4_ := zK (yL (by repeat (first | (with_reducible first | exact HB.out | apply zJ | apply zD | apply zE) | exact HB.out)) hb); clear HO_2 HO_10 HO_11 HB; have HO_2 := n0_; have HO_10 := n1_; have HO_11 := n2_; have HO405 := n3_; have HB := n4_; clear n0_ n1_ n2_ n3_ n4_ hb ho35))
             go_ret2
             exact ⟨_, by first | rfl | (simp [errW_none, errW_some] <;> rfl) | (simp [*, errW_none, errW_some] <;> rfl), by (with_reducible repeat (first | apply zL | apply zM | apply zN)); exact yd HO405.out (fun _ hk => hk.1), by repeat (first | (with_reducible first | exact HB.out | apply zJ | apply zD | apply zE) | exact HB.out)⟩
            ·replace c33 := yh.mpr c33
             subst c33
             have H1 : (if a1 = 0 then (none) else (r19_Look.l1 kj30 l0 a1 l2 a3 x10_2 x11_2 (wrap64 ((l0.length : Int) / a1)) (([] : List Int)) 0)) = some (r1, r2) := by rw [if_neg (show ¬ (false = true) by decide)] at H; exact H
             clear H
             have H := H1
             clear H1
             by_cases c36 : a1 = 0
             ·rw [if_pos c36] at H
              exact absurd H (by simp)
             ·rw [if_neg c36] at H
              have c36b0 : (a1 == 0) = false := beq_eq_false_iff_ne.mpr c36
              have c36b1 : (a1 != 0) = true := bne_iff_ne.mpr c36
              obtain ⟨y406, hy406⟩ : ∃ y_ : List Int, y_ = (([] : List Int)) := ⟨_, rfl⟩
              replace H : (r19_Look.l1 kj30 l0 a1 l2 a3 x10_2 x11_2 (wrap64 ((l0.length : Int) / a1)) y406 0) = some (r1, r2) := by first | (rw [hy406]; with_reducible exact H) | (have H2_ := (yV _ _).symm.trans H; rw [hy406]; with_reducible exact H2_) | (have H2_ := (yV _ _).symm.trans H; with_reducible exact H2_) | with_reducible exact H | (rw [hy406]; exact H) | exact H
              have Ny406 := zK hy406
              clear hy406
              have H' := zK H
              clear H
              go_wp2_with (first | ((with_reducible refine gate_dst (N := 75) rfl ?_); refine Kd.R_lit (Kd.int .i8) _ 53 ?hg (N := 75) ?hd (xs := ([] : List Int)) (inner := []) (ok := fun _ => True) (okp := fun _ => True) ?hr ?hp (fun _ hk => hk) trivial (Below.refl _ _) (yN _) (by simp) ?_; (case hd => rfl); (case hg => rfl); (case hr => first | (go_simp; done) | (go_simp; rfl)); (case hp => exact (Reps.none _ _)); intro v407 w37 ho38 hb hg_ hnew_; clear hg_ hnew_; (first | rw [← Ny406.out] at ho38 | (simp only [Int.reduceToNat] at ho38; rw [← Ny406.out] at ho38)); have n0_ := zK (Kd.V_elder' (by (with_reducible repeat (first | apply Kd.V_alloc | apply Kd.V_drewN | apply Kd.V_drew)); exact HO_2.out) (Kd.R_base ho38) hb); have n1_ := zK (Kd.N_elder' (by (with_reducible repeat (first | apply Kd.N_alloc | apply Kd.N_drewN | apply Kd.N_drew)); exact HO_10.out) (Kd.R_base ho38) hb); have n2_ := zK (Kd.N_elder' (by (with_reducible repeat (first | apply Kd.N_alloc | apply Kd.N_drewN | apply Kd.N_drew)); exact HO_11.out) (Kd.R_base ho38) hb); have n3_ := zK (Kd.R_lower (Kd.R_newM (M := fun k_ => (w.heap.size ≤ k_)) ho38 (yK (by repeat (first | (with_reducible first | exact HB.out | apply zJ | apply zD | apply zE) | exact HB.out))) (fun k_ h_ => h_)) (yK (by repeat (first | (with_reducible first | exact HB.out | apply zJ | apply zD | apply zE) | exact HB.out)))); have n4_ := zK (yL (by repeat (first | (with_reducible first | exact HB.out | apply zJ | apply zD | apply zE) | exact HB.out)) hb); clear HO_2 HO_10 HO_11 HB; have HO_2 := n0_; have HO_10 := n1_; have HO_11 := n2_; have HO408 := n3_; have HB := n4_; clear n0_ n1_ n2_ n3_ n4_ hb ho38))
              go_loopg [14, 15] kj30 (fun kq v14 v15 w' => ∃ (x14_5 : List Int) (x15_5 : Int), v15 = .int .i64 x15_5 ∧ Aside0 (r19_Look.l1 kq l0 a1 l2 a3 x10_2 x11_2 (wrap64 ((l0.length : Int) / a1)) x14_5 x15_5 = some (r1, r2)) ∧ Aside0 (kq ≤ kj30) ∧ Aside0 (Kd.V k50 50 w' w.heap.size (fun k_ => (P2_ k_ ∨ w.heap.size ≤ k_) ∧ some k_ ≠ (u10 : Value).ownBlock ∧ some k_ ≠ (u11 : Value).ownBlock ∧ some k_ ≠ (v14 : Value).ownBlock) (.slice A2 l2.length c2) l2) ∧ Aside0 (Kd.N (Kd.slice 53 (Kd.int .i8)) 22 w' w.heap.size (fun k_ => (P2_ k_ ∨ w.heap.size ≤ k_) ∧ some k_ ≠ (u11 : Value).ownBlock ∧ some k_ ≠ (v14 : Value).ownBlock) u10 x10_2) ∧ Aside0 (Kd.N (Kd.slice 53 (Kd.int .i8)) 22 w' w.heap.size (fun k_ => (P2_ k_ ∨ w.heap.size ≤ k_) ∧ some k_ ≠ (u10 : Value).ownBlock ∧ some k_ ≠ (v14 : Value).ownBlock) u11 x11_2) ∧ Aside0 (Kd.R (Kd.int .i8) 53 w' w.heap.size (fun k_ => (w.heap.size ≤ k_)) v14 x14_5) ∧ Aside0 (Below w.heap.size w w'))
              case atStart => exact ⟨(y406), (0), (by first | rfl | (simp; done) | (simp [*]; done)), H', ⟨yN _⟩, ⟨by (with_reducible repeat (first | apply Kd.V_alloc | apply Kd.V_drewN | apply Kd.V_drew)); exact Kd.V_mono HO_2.out (fun _ hk => ⟨hk.1.1, ⟨hk.1.2.1, ⟨hk.1.2.2, hk.2⟩⟩⟩)⟩, ⟨by (with_reducible repeat (first | apply Kd.N_alloc | apply Kd.N_drewN | apply Kd.N_drew)); exact Kd.N_mono HO_10.out (fun _ hk => ⟨hk.1.1, ⟨hk.1.2, hk.2⟩⟩)⟩, ⟨by (with_reducible repeat (first | apply Kd.N_alloc | apply Kd.N_drewN | apply Kd.N_drew)); exact Kd.N_mono HO_11.out (fun _ hk => ⟨hk.1.1, ⟨hk.1.2, hk.2⟩⟩)⟩, ⟨by (with_reducible repeat (first | apply zL | apply zM | apply zN)); exact yd HO408.out (fun _ hk => hk.1)⟩, ⟨by repeat (first | (with_reducible first | exact HB.out | apply zJ | apply zD | apply zE) | exact HB.out)⟩⟩
              case round =>
               clear H'
               try clear c1
               try clear c2
               try clear p2
               try clear c3
               try clear p3
               try clear q3
               try clear hx3
               try clear c6
               try clear c6b0
               try clear p6
               try clear c7
               try clear c7b0
               try clear c7b1
               try clear c8
               try clear c15
               try clear c15b0
               try clear c16
               try clear c16b0
               try clear c17
               try clear c18
               try clear c20
               try clear c23
               try clear c28
               try clear c30
               try clear c32
               try clear c32b0
               try clear c33
               try clear c36
               try clear c36b0
               try clear c36b1
               try clear hx390_0
               try clear hx390_1
               try clear hx394_0
               try clear hx394_1
               try clear p2
               try clear p3
               try clear p390
               try clear p394
               try clear p6
               try clear q3
               try clear q390
               try clear q394
               obtain ⟨x14_5, x15_5, rfl, HA, HK5, HO_2, HO_10, HO_11, HO_14, HB⟩ := hrel
               cases gk with
               | zero => exact absurd HA.out (by simp [r19_Look.l1])
               | succ k5 =>
                have H := HA.out
                clear HA
                simp only [r19_Look.l1] at H
                by_cases c39 : x15_5 < a1
                ·rw [if_pos c39] at H
                 have c39b0 : decide (x15_5 < a1) = true := yC c39
                 clear c39
                 obtain ⟨y409, hy409⟩ : ∃ y_ : List (List Int), y_ = (([] : List (List Int))) := ⟨_, rfl⟩
                 replace H : (r19_Look.l2 k5 l0 a1 l2 a3 x10_2 x11_2 (wrap64 ((l0.length : Int) / a1)) x14_5 x15_5 y409 (([] : List (List Int))) 0) = some (r1, r2) := by first | (rw [hy409]; with_reducible exact H) | (have H2_ := (yV _ _).symm.trans H; rw [hy409]; with_reducible exact H2_) | (have H2_ := (yV _ _).symm.trans H; with_reducible exact H2_) | with_reducible exact H | (rw [hy409]; exact H) | exact H
                 have Ny409 := zK hy409
                 clear hy409
                 obtain ⟨y412, hy412⟩ : ∃ y_ : List (List Int), y_ = (([] : List (List Int))) := ⟨_, rfl⟩
                 replace H : (r19_Look.l2 k5 l0 a1 l2 a3 x10_2 x11_2 (wrap64 ((l0.length : Int) / a1)) x14_5 x15_5 y409 y412 0) = some (r1, r2) := by first | (rw [hy412]; with_reducible exact H) | (have H2_ := (yV _ _).symm.trans H; rw [hy412]; with_reducible exact H2_) | (have H2_ := (yV _ _).symm.trans H; with_reducible exact H2_) | with_reducible exact H | (rw [hy412]; exact H) | exact H
                 have Ny412 := zK hy412
                 clear hy412
                 have H' := zK H
                 clear H
                 go_wp2_with (first | ((with_reducible refine gate_dst (N := 81) rfl ?_); refine Kd.N_lit (Kd.slice 53 (Kd.int .i8)) _ 22 ?hg (N' := 81) ?hd (xs := ([] : List (List Int))) (inner := []) (ok := (fun k_ => (P2_ k_ ∨ w.heap.size ≤ k_) ∧ some k_ ≠ (u10 : Value).ownBlock ∧ some k_ ≠ (u11 : Value).ownBlock ∧ some k_ ≠ (u14 : Value).ownBlock)) (okp := (fun k_ => (P2_ k_ ∨ w.heap.size ≤ k_) ∧ some k_ ≠ (u10 : Value).ownBlock ∧ some k_ ≠ (u11 : Value).ownBlock ∧ some k_ ≠ (u14 : Value).ownBlock)) ?hr ?hp (fun _ hk => hk) ((show ∀ k_, wr.heap.size ≤ k_ → (fun k_ => (P2_ k_ ∨ w.heap.size ≤ k_) ∧ some k_ ≠ (u10 : Value).ownBlock ∧ some k_ ≠ (u11 : Value).ownBlock ∧ some k_ ≠ (u14 : Value).ownBlock) k_ from fun k_ hk => ⟨(.inr (yl (yK (by repeat (first | (with_reducible first | exact HB.out | apply zJ | apply zD | apply zE) | exact HB.out))) hk)), Kd.fresh' (Kd.N_lt (by (with_reducible repeat (first | apply Kd.N_alloc | apply Kd.N_drewN | apply Kd.N_drew)); exact HO_10.out)) k_ hk, Kd.fresh' (Kd.N_lt (by (with_reducible repeat (first | apply Kd.N_alloc | apply Kd.N_drewN | apply Kd.N_drew)); exact HO_11.out)) k_ hk, Kd.fresh' (Kd.R_lt (by (with_reducible repeat (first | apply zL | apply zM | apply zN)); exact HO_14.out)) k_ hk⟩) _ (yN _)) (Below.refl _ _) (yN _) (by simp) ?_; (case hd => rfl); (case hg => rfl); (case hr => first | (go_simp; done) | (go_simp; rfl)); (case hp => exact (Reps.none _ _)); intro v410 w40 ho41 hb hg_ hnew_; clear hg_ hnew_; (first | rw [← Ny409.out] at ho41 | (simp only [Int.reduceToNat] at ho41; rw [← Ny409.out] at ho41)); have n0_ := zK (Kd.V_elder' (by (with_reducible repeat (first | apply Kd.V_alloc | apply Kd.V_drewN | apply Kd.V_drew)); exact HO_2.out) (Kd.N_base ho41) hb); have n1_ := zK (Kd.N_elder' (by (with_reducible repeat (first | apply Kd.N_alloc | apply Kd.N_drewN | apply Kd.N_drew)); exact HO_10.out) (Kd.N_base ho41) hb); have n2_ := zK (Kd.N_elder' (by (with_reducible repeat (first | apply Kd.N_alloc | apply Kd.N_drewN | apply Kd.N_drew)); exact HO_11.out) (Kd.N_base ho41) hb); have n3_ := zK (yb (by (with_reducible repeat (first | apply zL | apply zM | apply zN)); exact HO_14.out) hb); have n4_ := zK (Kd.N_lower ho41 (yK (by repeat (first | (with_reducible first | exact HB.out | apply zJ | apply zD | apply zE) | exact HB.out)))); have n5_ := zK (yL (by repeat (first | (with_reducible first | exact HB.out | apply zJ | apply zD | apply zE) | exact HB.out)) hb); clear HO_2 HO_10 HO_11 HO_14 HB; have HO_2 := n0_; have HO_10 := n1_; have HO_11 := n2_; have HO_14 := n3_; have HO411 := n4_; have HB := n5_; clear n0_ n1_ n2_ n3_ n4_ n5_ hb ho41) | ((with_reducible refine gate_dst (N := 82) rfl ?_); refine Kd.N_lit (Kd.slice 53 (Kd.int .i8)) _ 22 ?hg (N' := 82) ?hd (xs := ([] : List (List Int))) (inner := []) (ok := (fun k_ => (P2_ k_ ∨ w.heap.size ≤ k_) ∧ some k_ ≠ (u10 : Value).ownBlock ∧ some k_ ≠ (u11 : Value).ownBlock ∧ some k_ ≠ (u14 : Value).ownBlock ∧ some k_ ≠ (v410 : Value).ownBlock)) (okp := (fun k_ => (P2_ k_ ∨ w.heap.size ≤ k_) ∧ some k_ ≠ (u10 : Value).ownBlock ∧ some k_ ≠ (u11 : Value).ownBlock ∧ some k_ ≠ (u14 : Value).ownBlock ∧ some k_ ≠ (v410 : Value).ownBlock)) ?hr ?hp (fun _ hk => hk) ((show ∀ k_, w40.heap.size ≤ k_ → (fun k_ => (P2_ k_ ∨ w.heap.size ≤ k_) ∧ some k_ ≠ (u10 : Value).ownBlock ∧ some k_ ≠ (u11 : Value).ownBlock ∧ some k_ ≠ (u14 : Value).ownBlock ∧ some k_ ≠ (v410 : Value).ownBlock) k_ from fun k_ hk => ⟨(.inr (yl (yK (by repeat (first | (with_reducible first | exact HB.out | apply zJ | apply zD | apply zE) | exact HB.out))) hk)), Kd.fresh' (Kd.N_lt (by (with_reducible repeat (first | apply Kd.N_alloc | apply Kd.N_drewN | apply Kd.N_drew)); exact HO_10.out)) k_ hk, Kd.fresh' (Kd.N_lt (by (with_reducible repeat (first | apply Kd.N_alloc | apply Kd.N_drewN | apply Kd.N_drew)); exact HO_11.out)) k_ hk, Kd.fresh' (Kd.R_lt (by (with_reducible repeat (first | apply zL | apply zM | apply zN)); exact HO_14.out)) k_ hk, Kd.fresh' (Kd.N_lt (by (with_reducible repeat (first | apply Kd.N_alloc | apply Kd.N_drewN | apply Kd.N_drew)); exact HO411.out)) k_ hk⟩) _ (yN _)) (Below.refl _ _) (yN _) (by simp) ?_; (case hd => rfl); (case hg => rfl); (case hr => first | (go_simp; done) | (go_simp; rfl)); (case hp => exact (Reps.none _ _)); intro v413 w42 ho43 hb hg_ hnew_; clear hg_ hnew_; (first | rw [← Ny412.out] at ho43 | (simp only [Int.reduceToNat] at ho43; rw [← Ny412.out] at ho43)); have n0_ := zK (Kd.V_elder' (by (with_reducible repeat (first | apply Kd.V_alloc | apply Kd.V_drewN | apply Kd.V_drew)); exact HO_2.out) (Kd.N_base ho43) hb); have n1_ := zK (Kd.N_elder' (by (with_reducible repeat (first | apply Kd.N_alloc | apply Kd.N_drewN | apply Kd.N_drew)); exact HO_10.out) (Kd.N_base ho43) hb); have n2_ := zK (Kd.N_elder' (by (with_reducible repeat (first | apply Kd.N_alloc | apply Kd.N_drewN | apply Kd.N_drew)); exact HO_11.out) (Kd.N_base ho43) hb); have n3_ := zK (yb (by (with_reducible repeat (first | apply zL | apply zM | apply zN)); exact HO_14.out) hb); have n4_ := zK (Kd.N_elder' (by (with_reducible repeat (first | apply Kd.N_alloc | apply Kd.N_drewN | apply Kd.N_drew)); exact HO411.out) (Kd.N_base ho43) hb); have n5_ := zK (Kd.N_lower ho43 (yK (by repeat (first | (with_reducible first | exact HB.out | apply zJ | apply zD | apply zE) | exact HB.out)))); have n6_ := zK (yL (by repeat (first | (with_reducible first | exact HB.out | apply zJ | apply zD | apply zE) | exact HB.out)) hb); clear HO_2 HO_10 HO_11 HO_14 HO411 HB; have HO_2 := n0_; have HO_10 := n1_; have HO_11 := n2_; have HO_14 := n3_; have HO411 := n4_; have HO414 := n5_; have HB := n6_; clear n0_ n1_ n2_ n3_ n4_ n5_ n6_ hb ho43))
                 go_loopg [16, 17, 18] k5 (fun kq v16 v17 v18 w' => ∃ (x16_6 : List (List Int)) (x17_6 : List (List Int)) (x18_6 : Int), v18 = .int .i64 x18_6 ∧ Aside0 (r19_Look.l2 kq l0 a1 l2 a3 x10_2 x11_2 (wrap64 ((l0.length : Int) / a1)) x14_5 x15_5 x16_6 x17_6 x18_6 = some (r1, r2)) ∧ Aside0 (kq ≤ k5) ∧ Aside0 (Kd.V k50 50 w' w.heap.size (fun k_ => (P2_ k_ ∨ w.heap.size ≤ k_) ∧ some k_ ≠ (u10 : Value).ownBlock ∧ some k_ ≠ (u11 : Value).ownBlock ∧ some k_ ≠ (u14 : Value).ownBlock ∧ some k_ ≠ (v16 : Value).ownBlock ∧ some k_ ≠ (v17 : Value).ownBlock) (.slice A2 l2.length c2) l2) ∧ Aside0 (Kd.N (Kd.slice 53 (Kd.int .i8)) 22 w' w.heap.size (fun k_ => (P2_ k_ ∨ w.heap.size ≤ k_) ∧ some k_ ≠ (u11 : Value).ownBlock ∧ some k_ ≠ (u14 : Value).ownBlock ∧ some k_ ≠ (v16 : Value).ownBlock ∧ some k_ ≠ (v17 : Value).ownBlock) u10 x10_2) ∧ Aside0 (Kd.N (Kd.slice 53 (Kd.int .i8)) 22 w' w.heap.size (fun k_ => (P2_ k_ ∨ w.heap.size ≤ k_) ∧ some k_ ≠ (u10 : Value).ownBlock ∧ some k_ ≠ (u14 : Value).ownBlock ∧ some k_ ≠ (v16 : Value).ownBlock ∧ some k_ ≠ (v17 : Value).ownBlock) u11 x11_2) ∧ Aside0 (Kd.R (Kd.int .i8) 53 w' w.heap.size (fun k_ => (w.heap.size ≤ k_)) u14 x14_5) ∧ Aside0 (Kd.N (Kd.slice 53 (Kd.int .i8)) 22 w' w.heap.size (fun k_ => (P2_ k_ ∨ w.heap.size ≤ k_) ∧ some k_ ≠ (u10 : Value).ownBlock ∧ some k_ ≠ (u11 : Value).ownBlock ∧ some k_ ≠ (u14 : Value).ownBlock ∧ some k_ ≠ (v17 : Value).ownBlock) v16 x16_6) ∧ Aside0 (Kd.N (Kd.slice 53 (Kd.int .i8)) 22 w' w.heap.size (fun k_ => (P2_ k_ ∨ w.heap.size ≤ k_) ∧ some k_ ≠ (u10 : Value).ownBlock ∧ some k_ ≠ (u11 : Value).ownBlock ∧ some k_ ≠ (u14 : Value).ownBlock ∧ some k_ ≠ (v16 : Value).ownBlock) v17 x17_6) ∧ Aside0 (Below w.heap.size w w'))
                 case atStart => exact ⟨(y409), (y412), (0), (by first | rfl | (simp; done) | (simp [*]; done)), H', ⟨yN _⟩, ⟨by (with_reducible repeat (first | apply Kd.V_alloc | apply Kd.V_drewN | apply Kd.V_drew)); exact Kd.V_mono HO_2.out (fun _ hk => ⟨hk.1.1.1, ⟨hk.1.1.2.1, ⟨hk.1.1.2.2.1, ⟨hk.1.1.2.2.2, ⟨hk.1.2, hk.2⟩⟩⟩⟩⟩)⟩, ⟨by (with_reducible repeat (first | apply Kd.N_alloc | apply Kd.N_drewN | apply Kd.N_drew)); exact Kd.N_mono HO_10.out (fun _ hk => ⟨hk.1.1.1, ⟨hk.1.1.2.1, ⟨hk.1.1.2.2, ⟨hk.1.2, hk.2⟩⟩⟩⟩)⟩, ⟨by (with_reducible repeat (first | apply Kd.N_alloc | apply Kd.N_drewN | apply Kd.N_drew)); exact Kd.N_mono HO_11.out (fun _ hk => ⟨hk.1.1.1, ⟨hk.1.1.2.1, ⟨hk.1.1.2.2, ⟨hk.1.2, hk.2⟩⟩⟩⟩)⟩, ⟨by (with_reducible repeat (first | apply zL | apply zM | apply zN)); exact HO_14.out⟩, ⟨by (with_reducible repeat (first | apply Kd.N_alloc | apply Kd.N_drewN | apply Kd.N_drew)); exact Kd.N_mono HO411.out (fun _ hk => ⟨hk.1.1, ⟨hk.1.2.1, ⟨hk.1.2.2.1, ⟨hk.1.2.2.2, hk.2⟩⟩⟩⟩)⟩, ⟨by (with_reducible repeat (first | apply Kd.N_alloc | apply Kd.N_drewN | apply Kd.N_drew)); exact HO414.out⟩, ⟨by repeat (first | (with_reducible first | exact HB.out | apply zJ | apply zD | apply zE) | exact HB.out)⟩⟩
                 case round =>
                  clear H'
                  try clear c1
                  try clear c2
                  try clear p2
                  try clear c3
                  try clear p3
                  try clear q3
                  try clear hx3
                  try clear c6
                  try clear c6b0
                  try clear p6
                  try clear c7
                  try clear c7b0
                  try clear c7b1
                  try clear c8
                  try clear c15
                  try clear c15b0
                  try clear c16
                  try clear c16b0
                  try clear c17
                  try clear c18
                  try clear c20
                  try clear c23
                  try clear c28
                  try clear c30
                  try clear c32
                  try clear c32b0
                  try clear c33
                  try clear c36
                  try clear c36b0
                  try clear c36b1
                  try clear c39
                  try clear c39b0
                  try clear p39
                  try clear q39
                  try clear hx39
                  try clear hx390_0
                  try clear hx390_1
                  try clear hx394_0
                  try clear hx394_1
                  try clear p2
                  try clear p3
                  try clear p390
                  try clear p394
                  try clear p6
                  try clear q3
                  try clear q390
                  try clear q394
                  obtain ⟨x16_6, x17_6, x18_6, rfl, HA, HK6, HO_2, HO_10, HO_11, HO_14, HO_16, HO_17, HB⟩ := hrel
                  cases gk with
                  | zero => exact absurd HA.out (by simp [r19_Look.l2])
                  | succ k6 =>
                   have H := HA.out
                   clear HA
                   simp only [r19_Look.l2] at H
                   by_cases c44 : x18_6 < (l2.length : Int)
                   ·rw [if_pos c44] at H
                    have c44b0 : decide (x18_6 < (l2.length : Int)) = true := yC c44
                    clear c44
                    by_cases c45 : 0 ≤ x18_6
                    ·rw [if_pos c45] at H
                     have c45b0 : decide (0 ≤ x18_6) = true := yC c45
                     clear c45
                     by_cases c46 : x18_6 < (x10_2.length : Int)
                     ·rw [if_pos c46] at H
                      have c46b0 : decide (x18_6 < (x10_2.length : Int)) = true := yC c46
                      clear c46
                      obtain ⟨ji47, hji47⟩ : ∃ j_ : Int, (wrap64 (x15_5 * (wrap64 ((l0.length : Int) / a1)))) = j_ := ⟨_, rfl⟩
                      replace H : (if 0 ≤ (ji47) then (if (ji47) ≤ (wrap64 ((wrap64 (x15_5 + 1)) * (wrap64 ((l0.length : Int) / a1)))) then (if (wrap64 ((wrap64 (x15_5 + 1)) * (wrap64 ((l0.length : Int) / a1)))) ≤ ((rd_L1 x10_2 x18_6).length : Int) then (if x16_6.length < 5864062014805 then (if x18_6 < (x11_2.length : Int) then (if (wrap64 ((wrap64 (x15_5 + 1)) * (wrap64 ((l0.length : Int) / a1)))) ≤ ((rd_L1 x11_2 x18_6).length : Int) then (if x17_6.length < 5864062014805 then (r19_Look.l2 k6 l0 a1 l2 a3 x10_2 x11_2 (wrap64 ((l0.length : Int) / a1)) x14_5 x15_5 (x16_6 ++ [(((rd_L1 x10_2 x18_6).take ((wrap64 ((wrap64 (x15_5 + 1)) * (wrap64 ((l0.length : Int) / a1)))) : Int).toNat).drop ((ji47) : Int).toNat)]) (x17_6 ++ [(((rd_L1 x11_2 x18_6).take ((wrap64 ((wrap64 (x15_5 + 1)) * (wrap64 ((l0.length : Int) / a1)))) : Int).toNat).drop ((ji47) : Int).toNat)]) (wrap64 (x18_6 + 1))) else (none)) else (none)) else (none)) else (none)) else (none)) else (none)) else (none)) = some (r1, r2) := by first | (rw [hji47] at H; exact H) | (simp only [hji47] at H ⊢; exact H)
                      have hji47w : (IntKind.i64.wrap (x15_5 * (wrap64 ((l0.length : Int) / a1)))) = ji47 := (i64_w _).trans hji47
                      by_cases c48 : 0 ≤ (ji47)
                      ·rw [if_pos c48] at H
                       have c48b0 := yg c48
                       have c48b1 : decide (0 ≤ (ji47)) = true := yC c48
                       clear c48
                       by_cases c49 : (ji47) ≤ (wrap64 ((wrap64 (x15_5 + 1)) * (wrap64 ((l0.length : Int) / a1))))
                       ·rw [if_pos c49] at H
                        have c49b0 := yg c49
                        have c49b1 : decide ((ji47) ≤ (wrap64 ((wrap64 (x15_5 + 1)) * (wrap64 ((l0.length : Int) / a1))))) = true := yC c49
                        by_cases c50 : (wrap64 ((wrap64 (x15_5 + 1)) * (wrap64 ((l0.length : Int) / a1)))) ≤ ((rd_L1 x10_2 x18_6).length : Int)
                        ·rw [if_pos c50] at H
                         have c50b0 := yg c50
                         have c50b1 : decide ((wrap64 ((wrap64 (x15_5 + 1)) * (wrap64 ((l0.length : Int) / a1)))) ≤ ((rd_L1 x10_2 x18_6).length : Int)) = true := yC c50
                         obtain ⟨y416, hy416⟩ : ∃ y_ : List Int, y_ = (((rd_L1 x10_2 x18_6).take ((wrap64 ((wrap64 (x15_5 + 1)) * (wrap64 ((l0.length : Int) / a1)))) : Int).toNat).drop ((ji47) : Int).toNat) := ⟨_, rfl⟩
                         replace H : (if x16_6.length < 5864062014805 then (if x18_6 < (x11_2.length : Int) then (if (wrap64 ((wrap64 (x15_5 + 1)) * (wrap64 ((l0.length : Int) / a1)))) ≤ ((rd_L1 x11_2 x18_6).length : Int) then (if x17_6.length < 5864062014805 then (r19_Look.l2 k6 l0 a1 l2 a3 x10_2 x11_2 (wrap64 ((l0.length : Int) / a1)) x14_5 x15_5 (x16_6 ++ [y416]) (x17_6 ++ [(((rd_L1 x11_2 x18_6).take ((wrap64 ((wrap64 (x15_5 + 1)) * (wrap64 ((l0.length : Int) / a1)))) : Int).toNat).drop ((ji47) : Int).toNat)]) (wrap64 (x18_6 + 1))) else (none)) else (none)) else (none)) else (none)) = some (r1, r2) := by first | (rw [hy416]; with_reducible exact H) | (have H2_ := (yV _ _).symm.trans H; rw [hy416]; with_reducible exact H2_) | (have H2_ := (yV _ _).symm.trans H; with_reducible exact H2_) | with_reducible exact H | (rw [hy416]; exact H) | exact H
                         have Ny416 := zK hy416
                         clear hy416
                         by_cases c51 : x16_6.length < 5864062014805
                         ·rw [if_pos c51] at H
                          have LMc51 := zK c51
                          clear c51
                          obtain ⟨y421, hy421⟩ : ∃ y_ : List (List Int), y_ = (x16_6 ++ [y416]) := ⟨_, rfl⟩
                          replace H : (if x18_6 < (x11_2.length : Int) then (if (wrap64 ((wrap64 (x15_5 + 1)) * (wrap64 ((l0.length : Int) / a1)))) ≤ ((rd_L1 x11_2 x18_6).length : Int) then (if x17_6.length < 5864062014805 then (r19_Look.l2 k6 l0 a1 l2 a3 x10_2 x11_2 (wrap64 ((l0.length : Int) / a1)) x14_5 x15_5 y421 (x17_6 ++ [(((rd_L1 x11_2 x18_6).take ((wrap64 ((wrap64 (x15_5 + 1)) * (wrap64 ((l0.length : Int) / a1)))) : Int).toNat).drop ((ji47) : Int).toNat)]) (wrap64 (x18_6 + 1))) else (none)) else (none)) else (none)) = some (r1, r2) := by first | (rw [hy421]; with_reducible exact H) | (have H2_ := (yV _ _).symm.trans H; rw [hy421]; with_reducible exact H2_) | (have H2_ := (yV _ _).symm.trans H; with_reducible exact H2_) | with_reducible exact H | (rw [hy421]; exact H) | exact H
                          have Ny421 := zK hy421
                          clear hy421
                          by_cases c52 : x18_6 < (x11_2.length : Int)
                          ·rw [if_pos c52] at H
                           have c52b0 : decide (x18_6 < (x11_2.length : Int)) = true := yC c52
                           clear c52
                           have c53b0 := yg (yB (by first | (with_reducible assumption) | assumption) : 0 ≤ (ji47))
                           have c54b0 := yg (yB (by first | (with_reducible assumption) | assumption) : (ji47) ≤ (wrap64 ((wrap64 (x15_5 + 1)) * (wrap64 ((l0.length : Int) / a1)))))
                           by_cases c55 : (wrap64 ((wrap64 (x15_5 + 1)) * (wrap64 ((l0.length : Int) / a1)))) ≤ ((rd_L1 x11_2 x18_6).length : Int)
                           ·rw [if_pos c55] at H
                            have c55b0 := yg c55
                            have c55b1 : decide ((wrap64 ((wrap64 (x15_5 + 1)) * (wrap64 ((l0.length : Int) / a1)))) ≤ ((rd_L1 x11_2 x18_6).length : Int)) = true := yC c55
                            obtain ⟨y425, hy425⟩ : ∃ y_ : List Int, y_ = (((rd_L1 x11_2 x18_6).take ((wrap64 ((wrap64 (x15_5 + 1)) * (wrap64 ((l0.length : Int) / a1)))) : Int).toNat).drop ((ji47) : Int).toNat) := ⟨_, rfl⟩
                            replace H : (if x17_6.length < 5864062014805 then (r19_Look.l2 k6 l0 a1 l2 a3 x10_2 x11_2 (wrap64 ((l0.length : Int) / a1)) x14_5 x15_5 y421 (x17_6 ++ [y425]) (wrap64 (x18_6 + 1))) else (none)) = some (r1, r2) := by first | (rw [hy425]; with_reducible exact H) | (have H2_ := (yV _ _).symm.trans H; rw [hy425]; with_reducible exact H2_) | (have H2_ := (yV _ _).symm.trans H; with_reducible exact H2_) | with_reducible exact H | (rw [hy425]; exact H) | exact H
                            have Ny425 := zK hy425
                            clear hy425
                            by_cases c56 : x17_6.length < 5864062014805
                            ·rw [if_pos c56] at H
                             have LMc56 := zK c56
                             clear c56
                             obtain ⟨y430, hy430⟩ : ∃ y_ : List (List Int), y_ = (x17_6 ++ [y425]) := ⟨_, rfl⟩
                             replace H : (r19_Look.l2 k6 l0 a1 l2 a3 x10_2 x11_2 (wrap64 ((l0.length : Int) / a1)) x14_5 x15_5 y421 y430 (wrap64 (x18_6 + 1))) = some (r1, r2) := by first | (rw [hy430]; with_reducible exact H) | (have H2_ := (yV _ _).symm.trans H; rw [hy430]; with_reducible exact H2_) | (have H2_ := (yV _ _).symm.trans H; with_reducible exact H2_) | with_reducible exact H | (rw [hy430]; exact H) | exact H
                             have Ny430 := zK hy430
                             clear hy430
                             have H' := zK H
                             clear H
                             obtain ⟨Ao57, co57, eo57⟩ := Kd.N_slice HO_10.out
                             subst eo57
                             have p415 : 0 ≤ (x18_6 : Int) := yB (by first | (with_reducible assumption) | assumption)
                             have q415 : x18_6 < (x10_2.length : Int) := yB (by first | (with_reducible assumption) | assumption)
                             obtain ⟨ad415, A415_0, c415_0, e415, hx415_0, hl415_0, hi415_0⟩ := at_L1 (Kd.N_reads' HO_10.out).2.2 x18_6 p415 q415
                             cases e415
                             obtain ⟨ce415, hce415, hMe415, hcc415⟩ := Kd.N_get HO_10.out [] x18_6 p415 (by first | exact q415 | exact yB (by first | (with_reducible assumption) | assumption) | (have e_ := (Kd.N_reads' HO_10.out).1; omega))
                             obtain ⟨ua415_0, uc415_0, rfl, ul415_0, ge415_0⟩ := Kd.FK_slice_open hMe415
                             have hv415_0 := hcc415 0 _ rfl
                             rw [Nat.add_zero, show ((Kd.slice 53 (Kd.int .i8))).sz = 1 from rfl, Nat.mul_one] at hv415_0
                             replace hv415_0 := yY (hv415_0.symm.trans hx415_0)
                             injection hv415_0 with hva_ hvn_ hvc_
                             rw [hva_] at ge415_0
                             rw [hvc_] at ul415_0
                             have HL415_0 := zK (show Kd.V (Kd.int .i8) 53 _ w.heap.size _ _ (rd_L1 x10_2 x18_6) from Kd.V_mk ul415_0 ge415_0)
                             clear hva_ hvn_ hvc_ ge415_0 ul415_0 hcc415 hce415
                             have HR415_0 := zK hi415_0
                             have HC415_0 := zK hl415_0
                             clear hi415_0 hl415_0
                             replace p415 := yg p415
                             replace q415 := yg q415
                             have q58 : ((wrap64 ((wrap64 (x15_5 + 1)) * (wrap64 ((l0.length : Int) / a1)))) : Int) ≤ (((rd_L1 x10_2 x18_6).length : Int) : Int) := yB (by first | (with_reducible assumption) | assumption)
                             obtain ⟨i058, hi058, _, hsz58, _⟩ := yj info53
                             have hroom58 : (rd_L1 x10_2 x18_6).length ≤ c415_0 := HC415_0.out
                             have hC58 : Kd.F (Kd.int .i8) _ _ A415_0 (rd_L1 x10_2 x18_6).length (rd_L1 x10_2 x18_6) := (Kd.V_at (base := w.heap.size) HL415_0.out).2.2
                             have ql58 : ((ji47) : Int) ≤ ((wrap64 ((wrap64 (x15_5 + 1)) * (wrap64 ((l0.length : Int) / a1)))) : Int) := yB (by first | (with_reducible assumption) | assumption)
                             have q058 : (0 : Int) ≤ ((ji47) : Int) := yB (by first | (with_reducible assumption) | assumption)
                             have hcut58 := cut_mid (P := Try.prog) 22 53 .i64 .i64 Try.underlying22 hi058 1 hsz58 A415_0 (rd_L1 x10_2 x18_6).length c415_0 (ji47) (wrap64 ((wrap64 (x15_5 + 1)) * (wrap64 ((l0.length : Int) / a1)))) q058 ql58 q58 hroom58
                             have hr58 := Kd.F_mid (lo := ((ji47) : Int).toNat) (hi := ((wrap64 ((wrap64 (x15_5 + 1)) * (wrap64 ((l0.length : Int) / a1)))) : Int).toNat) (c := c415_0) hC58 (by omega) (by omega) hroom58
                             obtain ⟨A58, hA58⟩ : ∃ Aq_, Aq_ = (if c415_0 = ((ji47) : Int).toNat then A415_0 else (A415_0 : Option Addr).map (·.add (((ji47) : Int).toNat * 1))) := ⟨_, rfl⟩
                             obtain ⟨c58, hc58⟩ : ∃ cq_, cq_ = c415_0 - ((ji47) : Int).toNat := ⟨_, rfl⟩
                             have hy58 : y416.length = ((wrap64 ((wrap64 (x15_5 + 1)) * (wrap64 ((l0.length : Int) / a1)))) : Int).toNat - ((ji47) : Int).toNat := (by rw [Ny416.out, yG, yF] <;> omega)
                             rw [show ((rd_L1 x10_2 x18_6).take ((wrap64 ((wrap64 (x15_5 + 1)) * (wrap64 ((l0.length : Int) / a1)))) : Int).toNat).drop ((ji47) : Int).toNat = y416 from Ny416.out.symm] at hr58
                             replace hr58 : Kd.F (Kd.int .i8) _ _ A58 y416.length y416 := (by rw [hA58]; exact hr58)
                             rw [← hy58, ← hA58, ← hc58] at hcut58
                             have HO420 := zK (show Kd.V (Kd.int .i8) 53 _ w.heap.size _ (.slice A58 y416.length c58) y416 from Kd.V_mk (by rw [hy58, hc58]; exact Nat.sub_le_sub_right (yl (by omega) hroom58) _) hr58)
                             have HC420 := zK (show y416.length ≤ c58 from by rw [hy58, hc58]; exact Nat.sub_le_sub_right (yl (by omega) hroom58) _)
                             clear hr58 hC58 hroom58 hi058 hsz58 hc58
                             have KY58 := zK hy58
                             have KA58 := zK hA58
                             clear hy58 hA58
                             replace q58 := yg q58
                             go_wp2_with (first | ((with_reducible refine gate_builtin (b := .append) (xs := #[.tmp 89, .tmp 102]) rfl ?_); at_builtin; refine Kd.N_append (Kd.slice 53 (Kd.int .i8)) (w0 := w) w.heap.size rfl (.tmp 89) (.tmp 102) 23 22 (.slice none 0 0) 24 rfl Try.underlying23 info22 rfl (by decide) (by omega) u16 x16_6 y416 [.slice A58 y416.length c58] (fun k_ => (P2_ k_ ∨ w.heap.size ≤ k_) ∧ some k_ ≠ (.slice (some ad415) x10_2.length co57 : Value).ownBlock ∧ some k_ ≠ (u11 : Value).ownBlock ∧ some k_ ≠ (u14 : Value).ownBlock ∧ some k_ ≠ (u17 : Value).ownBlock) (fun k_ => ((fun k_ => (P2_ k_ ∨ w.heap.size ≤ k_) ∧ some k_ ≠ (.slice (some ad415) x10_2.length co57 : Value).ownBlock ∧ some k_ ≠ (u11 : Value).ownBlock ∧ some k_ ≠ (u14 : Value).ownBlock ∧ some k_ ≠ (u17 : Value).ownBlock)) k_ ∧ some k_ ≠ (u16 : Value).ownBlock) rfl rfl ?aP (fun _ hk => hk) ?aF ?aO ?aB ?aS ?aL ?_; (case aP => exact (Kd.FK_slice_mk (Kd.V_reads' (Kd.V_mono (ok' := (fun k_ => ((fun k_ => (P2_ k_ ∨ w.heap.size ≤ k_) ∧ some k_ ≠ (.slice (some ad415) x10_2.length co57 : Value).ownBlock ∧ some k_ ≠ (u11 : Value).ownBlock ∧ some k_ ≠ (u14 : Value).ownBlock ∧ some k_ ≠ (u17 : Value).ownBlock)) k_ ∧ some k_ ≠ (u16 : Value).ownBlock)) (HO420.out) (fun k_ hk => ⟨⟨hk.1.1, ⟨hk.2, ⟨hk.1.2.1, ⟨hk.1.2.2.1, hk.1.2.2.2.2⟩⟩⟩⟩, hk.1.2.2.2.1⟩))).2.1 (Kd.V_F (Kd.V_mono (ok' := (fun k_ => ((fun k_ => (P2_ k_ ∨ w.heap.size ≤ k_) ∧ some k_ ≠ (.slice (some ad415) x10_2.length co57 : Value).ownBlock ∧ some k_ ≠ (u11 : Value).ownBlock ∧ some k_ ≠ (u14 : Value).ownBlock ∧ some k_ ≠ (u17 : Value).ownBlock)) k_ ∧ some k_ ≠ (u16 : Value).ownBlock)) (HO420.out) (fun k_ hk => ⟨⟨hk.1.1, ⟨hk.2, ⟨hk.1.2.1, ⟨hk.1.2.2.1, hk.1.2.2.2.2⟩⟩⟩⟩, hk.1.2.2.2.1⟩))))); (case aB => exact (by repeat (first | (with_reducible first | exact HB.out | apply zJ | apply zD | apply zE) | exact HB.out))); (case aF => exact (fun k_ hk => ⟨(.inr (yl (yK (by repeat (first | (with_reducible first | exact HB.out | apply zJ | apply zD | apply zE) | exact HB.out))) hk)), Kd.fresh' (Kd.N_lt (by (with_reducible repeat (first | apply Kd.N_alloc | apply Kd.N_drewN | apply Kd.N_drew)); exact HO_10.out)) k_ hk, Kd.fresh' (Kd.N_lt (by (with_reducible repeat (first | apply Kd.N_alloc | apply Kd.N_drewN | apply Kd.N_drew)); exact HO_11.out)) k_ hk, Kd.fresh' (Kd.R_lt (by (with_reducible repeat (first | apply zL | apply zM | apply zN)); exact HO_14.out)) k_ hk, Kd.fresh' (Kd.N_lt (by (with_reducible repeat (first | apply Kd.N_alloc | apply Kd.N_drewN | apply Kd.N_drew)); exact HO_17.out)) k_ hk⟩)); (case aO => exact (by (with_reducible repeat (first | apply Kd.N_alloc | apply Kd.N_drewN | apply Kd.N_drew)); exact HO_16.out)); (case aS => exact (yK (by repeat (first | (with_reducible first | exact HB.out | apply zJ | apply zD | apply zE) | exact HB.out)))); (case aL => have := LMc51.out; omega); intro v422 w59 ho hb hg hat; rw [← Ny421.out] at ho; have n0_ := zK (Kd.V_afterv (ok := (fun k_ => (P2_ k_ ∨ w.heap.size ≤ k_) ∧ some k_ ≠ (.slice (some ad415) x10_2.length co57 : Value).ownBlock ∧ some k_ ≠ (u11 : Value).ownBlock ∧ some k_ ≠ (u14 : Value).ownBlock ∧ some k_ ≠ (u17 : Value).ownBlock)) (by (with_reducible repeat (first | apply Kd.V_alloc | apply Kd.V_drewN | apply Kd.V_drew)); exact Kd.V_mono HO_2.out (fun _ hk => ⟨⟨hk.1, ⟨hk.2.1, ⟨hk.2.2.1, ⟨hk.2.2.2.1, hk.2.2.2.2.2⟩⟩⟩⟩, hk.2.2.2.2.1⟩)) hg hat); have n1_ := zK (Kd.N_afterv (ok := (fun k_ => (P2_ k_ ∨ w.heap.size ≤ k_) ∧ some k_ ≠ (u11 : Value).ownBlock ∧ some k_ ≠ (u14 : Value).ownBlock ∧ some k_ ≠ (u17 : Value).ownBlock)) (by (with_reducible repeat (first | apply Kd.N_alloc | apply Kd.N_drewN | apply Kd.N_drew)); exact Kd.N_mono HO_10.out (fun _ hk => ⟨⟨hk.1, ⟨hk.2.1, ⟨hk.2.2.1, hk.2.2.2.2⟩⟩⟩, hk.2.2.2.1⟩)) hg hat); have n2_ := zK (Kd.N_afterv (ok := (fun k_ => (P2_ k_ ∨ w.heap.size ≤ k_) ∧ some k_ ≠ (.slice (some ad415) x10_2.length co57 : Value).ownBlock ∧ some k_ ≠ (u14 : Value).ownBlock ∧ some k_ ≠ (u17 : Value).ownBlock)) (by (with_reducible repeat (first | apply Kd.N_alloc | apply Kd.N_drewN | apply Kd.N_drew)); exact Kd.N_mono HO_11.out (fun _ hk => ⟨⟨hk.1, ⟨hk.2.1, ⟨hk.2.2.1, hk.2.2.2.2⟩⟩⟩, hk.2.2.2.1⟩)) hg hat); have n3_ := zK (Kd.R_over' (by (with_reducible repeat (first | apply zL | apply zM | apply zN)); exact HO_14.out) (Kd.N_typed (by (with_reducible repeat (first | apply Kd.N_alloc | apply Kd.N_drewN | apply Kd.N_drew)); exact HO_16.out)) (by decide) hg); have n4_ := zK (Kd.N_afterv (ok := (fun k_ => (P2_ k_ ∨ w.heap.size ≤ k_) ∧ some k_ ≠ (.slice (some ad415) x10_2.length co57 : Value).ownBlock ∧ some k_ ≠ (u11 : Value).ownBlock ∧ some k_ ≠ (u14 : Value).ownBlock)) (by (with_reducible repeat (first | apply Kd.N_alloc | apply Kd.N_drewN | apply Kd.N_drew)); exact Kd.N_mono HO_17.out (fun _ hk => ⟨⟨hk.1, ⟨hk.2.1, ⟨hk.2.2.1, hk.2.2.2.1⟩⟩⟩, hk.2.2.2.2⟩)) hg hat); have n5_ := zK (Kd.V_afterv (ok := (fun k_ => (P2_ k_ ∨ w.heap.size ≤ k_) ∧ some k_ ≠ (.slice (some ad415) x10_2.length co57 : Value).ownBlock ∧ some k_ ≠ (u11 : Value).ownBlock ∧ some k_ ≠ (u14 : Value).ownBlock ∧ some k_ ≠ (u17 : Value).ownBlock)) (by (with_reducible repeat (first | apply Kd.V_alloc | apply Kd.V_drewN | apply Kd.V_drew)); exact Kd.V_mono HL415_0.out (fun _ hk => ⟨⟨hk.1.1, ⟨hk.2, ⟨hk.1.2.1, ⟨hk.1.2.2.1, hk.1.2.2.2.2⟩⟩⟩⟩, hk.1.2.2.2.1⟩)) hg hat); have n6_ := zK (Kd.V_afterv (ok := (fun k_ => (P2_ k_ ∨ w.heap.size ≤ k_) ∧ some k_ ≠ (.slice (some ad415) x10_2.length co57 : Value).ownBlock ∧ some k_ ≠ (u11 : Value).ownBlock ∧ some k_ ≠ (u14 : Value).ownBlock ∧ some k_ ≠ (u17 : Value).ownBlock)) (by (with_reducible repeat (first | apply Kd.V_alloc | apply Kd.V_drewN | apply Kd.V_drew)); exact Kd.V_mono HO420.out (fun _ hk => ⟨⟨hk.1.1, ⟨hk.2, ⟨hk.1.2.1, ⟨hk.1.2.2.1, hk.1.2.2.2.2⟩⟩⟩⟩, hk.1.2.2.2.1⟩)) hg hat); have n7_ := zK (hb); have n8_ := zK (ho); clear HO_2 HO_10 HO_11 HO_14 HO_17 HL415_0 HO420 HB HO_16; have HO_2 := n0_; have HO_10 := n1_; have HO_11 := n2_; have HO_14 := n3_; have HO_17 := n4_; have HL415_0 := n5_; have HO420 := n6_; have HB := n7_; have HO423 := n8_; clear n0_ n1_ n2_ n3_ n4_ n5_ n6_ n7_ n8_ ho hb hg hat; obtain ⟨Ao60, co60, eo60⟩ := Kd.N_slice HO_11.out; subst eo60; have p424 : 0 ≤ (x18_6 : Int) := yB (by first | (with_reducible assumption) | assumption); have q424 : x18_6 < (x11_2.length : Int) := yB (by first | (with_reducible assumption) | assumption); obtain ⟨ad424, A424_0, c424_0, e424, hx424_0, hl424_0, hi424_0⟩ := at_L1 (Kd.N_reads' HO_11.out).2.2 x18_6 p424 q424; cases e424; obtain ⟨ce424, hce424, hMe424, hcc424⟩ := Kd.N_get HO_11.out [] x18_6 p424 (by first | exact q424 | exact yB (by first | (with_reducible assumption) | assumption) | (have e_ := (Kd.N_reads' HO_11.out).1; omega)); obtain ⟨ua424_0, uc424_0, rfl, ul424_0, ge424_0⟩ := Kd.FK_slice_open hMe424; have hv424_0 := hcc424 0 _ rfl; rw [Nat.add_zero, show ((Kd.slice 53 (Kd.int .i8))).sz = 1 from rfl, Nat.mul_one] at hv424_0; replace hv424_0 := yY (hv424_0.symm.trans hx424_0); injection hv424_0 with hva_ hvn_ hvc_; rw [hva_] at ge424_0; rw [hvc_] at ul424_0; have HL424_0 := zK (show Kd.V (Kd.int .i8) 53 _ w.heap.size _ _ (rd_L1 x11_2 x18_6) from Kd.V_mk ul424_0 ge424_0); clear hva_ hvn_ hvc_ ge424_0 ul424_0 hcc424 hce424; have HR424_0 := zK hi424_0; have HC424_0 := zK hl424_0; clear hi424_0 hl424_0; replace p424 := yg p424; replace q424 := yg q424; have q61 : ((wrap64 ((wrap64 (x15_5 + 1)) * (wrap64 ((l0.length : Int) / a1)))) : Int) ≤ (((rd_L1 x11_2 x18_6).length : Int) : Int) := yB (by first | (with_reducible assumption) | assumption); obtain ⟨i061, hi061, _, hsz61, _⟩ := yj info53; have hroom61 : (rd_L1 x11_2 x18_6).length ≤ c424_0 := HC424_0.out; have hC61 : Kd.F (Kd.int .i8) _ _ A424_0 (rd_L1 x11_2 x18_6).length (rd_L1 x11_2 x18_6) := (Kd.V_at (base := w.heap.size) HL424_0.out).2.2; have ql61 : ((ji47) : Int) ≤ ((wrap64 ((wrap64 (x15_5 + 1)) * (wrap64 ((l0.length : Int) / a1)))) : Int) := yB (by first | (with_reducible assumption) | assumption); have q061 : (0 : Int) ≤ ((ji47) : Int) := yB (by first | (with_reducible assumption) | assumption); have hcut61 := cut_mid (P := Try.prog) 22 53 .i64 .i64 Try.underlying22 hi061 1 hsz61 A424_0 (rd_L1 x11_2 x18_6).length c424_0 (ji47) (wrap64 ((wrap64 (x15_5 + 1)) * (wrap64 ((l0.length : Int) / a1)))) q061 ql61 q61 hroom61; have hr61 := Kd.F_mid (lo := ((ji47) : Int).toNat) (hi := ((wrap64 ((wrap64 (x15_5 + 1)) * (wrap64 ((l0.length : Int) / a1)))) : Int).toNat) (c := c424_0) hC61 (by omega) (by omega) hroom61; obtain ⟨A61, hA61⟩ : ∃ Aq_, Aq_ = (if c424_0 = ((ji47) : Int).toNat then A424_0 else (A424_0 : Option Addr).map (·.add (((ji47) : Int).toNat * 1))) := ⟨_, rfl⟩; obtain ⟨c61, hc61⟩ : ∃ cq_, cq_ = c424_0 - ((ji47) : Int).toNat := ⟨_, rfl⟩; have hy61 : y425.length = ((wrap64 ((wrap64 (x15_5 + 1)) * (wrap64 ((l0.length : Int) / a1)))) : Int).toNat - ((ji47) : Int).toNat := (by rw [Ny425.out, yG, yF] <;> omega); rw [show ((rd_L1 x11_2 x18_6).take ((wrap64 ((wrap64 (x15_5 + 1)) * (wrap64 ((l0.length : Int) / a1)))) : Int).toNat).drop ((ji47) : Int).toNat = y425 from Ny425.out.symm] at hr61; replace hr61 : Kd.F (Kd.int .i8) _ _ A61 y425.length y425 := (by rw [hA61]; exact hr61); rw [← hy61, ← hA61, ← hc61] at hcut61; have HO429 := zK (show Kd.V (Kd.int .i8) 53 _ w.heap.size _ (.slice A61 y425.length c61) y425 from Kd.V_mk (by rw [hy61, hc61]; exact Nat.sub_le_sub_right (yl (by omega) hroom61) _) hr61); have HC429 := zK (show y425.length ≤ c61 from by rw [hy61, hc61]; exact Nat.sub_le_sub_right (yl (by omega) hroom61) _); clear hr61 hC61 hroom61 hi061 hsz61 hc61; have KY61 := zK hy61; have KA61 := zK hA61; clear hy61 hA61; replace q61 := yg q61) | ((with_reducible refine gate_builtin (b := .append) (xs := #[.tmp 104, .tmp 117]) rfl ?_); at_builtin; refine Kd.N_append (Kd.slice 53 (Kd.int .i8)) (w0 := w) w.heap.size rfl (.tmp 104) (.tmp 117) 23 22 (.slice none 0 0) 24 rfl Try.underlying23 info22 rfl (by decide) (by omega) u17 x17_6 y425 [.slice A61 y425.length c61] (fun k_ => (P2_ k_ ∨ w.heap.size ≤ k_) ∧ some k_ ≠ (.slice (some ad415) x10_2.length co57 : Value).ownBlock ∧ some k_ ≠ (.slice (some ad424) x11_2.length co60 : Value).ownBlock ∧ some k_ ≠ (u14 : Value).ownBlock ∧ some k_ ≠ (v422 : Value).ownBlock) (fun k_ => ((fun k_ => (P2_ k_ ∨ w.heap.size ≤ k_) ∧ some k_ ≠ (.slice (some ad415) x10_2.length co57 : Value).ownBlock ∧ some k_ ≠ (.slice (some ad424) x11_2.length co60 : Value).ownBlock ∧ some k_ ≠ (u14 : Value).ownBlock ∧ some k_ ≠ (v422 : Value).ownBlock)) k_ ∧ some k_ ≠ (u17 : Value).ownBlock) rfl rfl ?aP (fun _ hk => hk) ?aF ?aO ?aB ?aS ?aL ?_; (case aP => exact (Kd.FK_slice_mk (Kd.V_reads' (Kd.V_mono (ok' := (fun k_ => ((fun k_ => (P2_ k_ ∨ w.heap.size ≤ k_) ∧ some k_ ≠ (.slice (some ad415) x10_2.length co57 : Value).ownBlock ∧ some k_ ≠ (.slice (some ad424) x11_2.length co60 : Value).ownBlock ∧ some k_ ≠ (u14 : Value).ownBlock ∧ some k_ ≠ (v422 : Value).ownBlock)) k_ ∧ some k_ ≠ (u17 : Value).ownBlock)) (HO429.out) (fun k_ hk => ⟨⟨hk.1.1.1, ⟨hk.1.1.2.1, ⟨hk.2, ⟨hk.1.1.2.2.1, hk.1.2⟩⟩⟩⟩, hk.1.1.2.2.2⟩))).2.1 (Kd.V_F (Kd.V_mono (ok' := (fun k_ => ((fun k_ => (P2_ k_ ∨ w.heap.size ≤ k_) ∧ some k_ ≠ (.slice (some ad415) x10_2.length co57 : Value).ownBlock ∧ some k_ ≠ (.slice (some ad424) x11_2.length co60 : Value).ownBlock ∧ some k_ ≠ (u14 : Value).ownBlock ∧ some k_ ≠ (v422 : Value).ownBlock)) k_ ∧ some k_ ≠ (u17 : Value).ownBlock)) (HO429.out) (fun k_ hk => ⟨⟨hk.1.1.1, ⟨hk.1.1.2.1, ⟨hk.2, ⟨hk.1.1.2.2.1, hk.1.2⟩⟩⟩⟩, hk.1.1.2.2.2⟩))))); (case aB => exact (by repeat (first | (with_reducible first | exact HB.out | apply zJ | apply zD | apply zE) | exact HB.out))); (case aF => exact (fun k_ hk => ⟨(.inr (yl (yK (by repeat (first | (with_reducible first | exact HB.out | apply zJ | apply zD | apply zE) | exact HB.out))) hk)), Kd.fresh' (Kd.N_lt (by (with_reducible repeat (first | apply Kd.N_alloc | apply Kd.N_drewN | apply Kd.N_drew)); exact HO_10.out)) k_ hk, Kd.fresh' (Kd.N_lt (by (with_reducible repeat (first | apply Kd.N_alloc | apply Kd.N_drewN | apply Kd.N_drew)); exact HO_11.out)) k_ hk, Kd.fresh' (Kd.R_lt (by (with_reducible repeat (first | apply zL | apply zM | apply zN)); exact HO_14.out)) k_ hk, Kd.fresh' (Kd.N_lt (by (with_reducible repeat (first | apply Kd.N_alloc | apply Kd.N_drewN | apply Kd.N_drew)); exact HO423.out)) k_ hk⟩)); (case aO => exact (by (with_reducible repeat (first | apply Kd.N_alloc | apply Kd.N_drewN | apply Kd.N_drew)); exact Kd.N_mono HO_17.out (fun _ hk => ⟨hk.1.1, ⟨hk.1.2.1, ⟨hk.1.2.2.1, ⟨hk.1.2.2.2, hk.2⟩⟩⟩⟩))); (case aS => exact (yK (by repeat (first | (with_reducible first | exact HB.out | apply zJ | apply zD | apply zE) | exact HB.out)))); (case aL => have := LMc56.out; omega); intro v431 w62 ho hb hg hat; rw [← Ny430.out] at ho; have n0_ := zK (Kd.V_afterv (ok := (fun k_ => (P2_ k_ ∨ w.heap.size ≤ k_) ∧ some k_ ≠ (.slice (some ad415) x10_2.length co57 : Value).ownBlock ∧ some k_ ≠ (.slice (some ad424) x11_2.length co60 : Value).ownBlock ∧ some k_ ≠ (u14 : Value).ownBlock ∧ some k_ ≠ (v422 : Value).ownBlock)) (by (with_reducible repeat (first | apply Kd.V_alloc | apply Kd.V_drewN | apply Kd.V_drew)); exact Kd.V_mono HO_2.out (fun _ hk => ⟨⟨hk.1.1, ⟨hk.1.2.1, ⟨hk.1.2.2.1, ⟨hk.1.2.2.2.1, hk.2⟩⟩⟩⟩, hk.1.2.2.2.2⟩)) hg hat); have n1_ := zK (Kd.N_afterv (ok := (fun k_ => (P2_ k_ ∨ w.heap.size ≤ k_) ∧ some k_ ≠ (.slice (some ad424) x11_2.length co60 : Value).ownBlock ∧ some k_ ≠ (u14 : Value).ownBlock ∧ some k_ ≠ (v422 : Value).ownBlock)) (by (with_reducible repeat (first | apply Kd.N_alloc | apply Kd.N_drewN | apply Kd.N_drew)); exact Kd.N_mono HO_10.out (fun _ hk => ⟨⟨hk.1.1, ⟨hk.1.2.1, ⟨hk.1.2.2.1, hk.2⟩⟩⟩, hk.1.2.2.2⟩)) hg hat); have n2_ := zK (Kd.N_afterv (ok := (fun k_ => (P2_ k_ ∨ w.heap.size ≤ k_) ∧ some k_ ≠ (.slice (some ad415) x10_2.length co57 : Value).ownBlock ∧ some k_ ≠ (u14 : Value).ownBlock ∧ some k_ ≠ (v422 : Value).ownBlock)) (by (with_reducible repeat (first | apply Kd.N_alloc | apply Kd.N_drewN | apply Kd.N_drew)); exact Kd.N_mono HO_11.out (fun _ hk => ⟨⟨hk.1.1, ⟨hk.1.2.1, ⟨hk.1.2.2.1, hk.2⟩⟩⟩, hk.1.2.2.2⟩)) hg hat); have n3_ := zK (Kd.R_over' (by (with_reducible repeat (first | apply zL | apply zM | apply zN)); exact HO_14.out) (Kd.N_typed (by (with_reducible repeat (first | apply Kd.N_alloc | apply Kd.N_drewN | apply Kd.N_drew)); exact HO_17.out)) (by decide) hg); have n4_ := zK (Kd.V_afterv (ok := (fun k_ => (P2_ k_ ∨ w.heap.size ≤ k_) ∧ some k_ ≠ (.slice (some ad415) x10_2.length co57 : Value).ownBlock ∧ some k_ ≠ (.slice (some ad424) x11_2.length co60 : Value).ownBlock ∧ some k_ ≠ (u14 : Value).ownBlock ∧ some k_ ≠ (v422 : Value).ownBlock)) (by (with_reducible repeat (first | apply Kd.V_alloc | apply Kd.V_drewN | apply Kd.V_drew)); exact Kd.V_mono HL415_0.out (fun _ hk => ⟨⟨hk.1.1, ⟨hk.1.2.1, ⟨hk.1.2.2.1, ⟨hk.1.2.2.2.1, hk.2⟩⟩⟩⟩, hk.1.2.2.2.2⟩)) hg hat); have n5_ := zK (Kd.V_afterv (ok := (fun k_ => (P2_ k_ ∨ w.heap.size ≤ k_) ∧ some k_ ≠ (.slice (some ad415) x10_2.length co57 : Value).ownBlock ∧ some k_ ≠ (.slice (some ad424) x11_2.length co60 : Value).ownBlock ∧ some k_ ≠ (u14 : Value).ownBlock ∧ some k_ ≠ (v422 : Value).ownBlock)) (by (with_reducible repeat (first | apply Kd.V_alloc | apply Kd.V_drewN | apply Kd.V_drew)); exact Kd.V_mono HO420.out (fun _ hk => ⟨⟨hk.1.1, ⟨hk.1.2.1, ⟨hk.1.2.2.1, ⟨hk.1.2.2.2.1, hk.2⟩⟩⟩⟩, hk.1.2.2.2.2⟩)) hg hat); have n6_ := zK (Kd.N_afterv (ok := (fun k_ => (P2_ k_ ∨ w.heap.size ≤ k_) ∧ some k_ ≠ (.slice (some ad415) x10_2.length co57 : Value).ownBlock ∧ some k_ ≠ (.slice (some ad424) x11_2.length co60 : Value).ownBlock ∧ some k_ ≠ (u14 : Value).ownBlock)) (by (with_reducible repeat (first | apply Kd.N_alloc | apply Kd.N_drewN | apply Kd.N_drew)); exact Kd.N_mono HO423.out (fun _ hk => ⟨⟨hk.1, ⟨hk.2.1, ⟨hk.2.2.1, hk.2.2.2.1⟩⟩⟩, hk.2.2.2.2⟩)) hg hat); have n7_ := zK (Kd.V_afterv (ok := (fun k_ => (P2_ k_ ∨ w.heap.size ≤ k_) ∧ some k_ ≠ (.slice (some ad415) x10_2.length co57 : Value).ownBlock ∧ some k_ ≠ (.slice (some ad424) x11_2.length co60 : Value).ownBlock ∧ some k_ ≠ (u14 : Value).ownBlock ∧ some k_ ≠ (v422 : Value).ownBlock)) (by (with_reducible repeat (first | apply Kd.V_alloc | apply Kd.V_drewN | apply Kd.V_drew)); exact Kd.V_mono HL424_0.out (fun _ hk => ⟨⟨hk.1.1.1, ⟨hk.1.1.2.1, ⟨hk.2, ⟨hk.1.1.2.2.1, hk.1.2⟩⟩⟩⟩, hk.1.1.2.2.2⟩)) hg hat); have n8_ := zK (Kd.V_afterv (ok := (fun k_ => (P2_ k_ ∨ w.heap.size ≤ k_) ∧ some k_ ≠ (.slice (some ad415) x10_2.length co57 : Value).ownBlock ∧ some k_ ≠ (.slice (some ad424) x11_2.length co60 : Value).ownBlock ∧ some k_ ≠ (u14 : Value).ownBlock ∧ some k_ ≠ (v422 : Value).ownBlock)) (by (with_reducible repeat (first | apply Kd.V_alloc | apply Kd.V_drewN | apply Kd.V_drew)); exact Kd.V_mono HO429.out (fun _ hk => ⟨⟨hk.1.1.1, ⟨hk.1.1.2.1, ⟨hk.2, ⟨hk.1.1.2.2.1, hk.1.2⟩⟩⟩⟩, hk.1.1.2.2.2⟩)) hg hat); have n9_ := zK (hb); have n10_ := zK (ho); clear HO_2 HO_10 HO_11 HO_14 HL415_0 HO420 HO423 HL424_0 HO429 HB HO_17; have HO_2 := n0_; have HO_10 := n1_; have HO_11 := n2_; have HO_14 := n3_; have HL415_0 := n4_; have HO420 := n5_; have HO423 := n6_; have HL424_0 := n7_; have HO429 := n8_; have HB := n9_; have HO432 := n10_; clear n0_ n1_ n2_ n3_ n4_ n5_ n6_ n7_ n8_ n9_ n10_ ho hb hg hat))
                             go_roundg k6
                             case measure => have := HJ4.out; have := HK2.out; have := HJ20.out; have := HJ30.out; have := HK5.out; have := HK6.out; omega
                             case rel => exact ⟨(y421), (y430), (wrap64 (x18_6 + 1)), (by first | rfl | (simp; done) | (simp [*]; done)), H', ⟨by have := HJ4.out; have := HK2.out; have := HJ20.out; have := HJ30.out; have := HK5.out; have := HK6.out; omega⟩, ⟨by (with_reducible repeat (first | apply Kd.V_alloc | apply Kd.V_drewN | apply Kd.V_drew)); exact Kd.V_mono HO_2.out (fun _ hk => ⟨hk.1.1, ⟨hk.1.2.1, ⟨hk.1.2.2.1, ⟨hk.1.2.2.2.1, ⟨hk.1.2.2.2.2, hk.2⟩⟩⟩⟩⟩)⟩, ⟨by (with_reducible repeat (first | apply Kd.N_alloc | apply Kd.N_drewN | apply Kd.N_drew)); exact Kd.N_mono HO_10.out (fun _ hk => ⟨hk.1.1, ⟨hk.1.2.1, ⟨hk.1.2.2.1, ⟨hk.1.2.2.2, hk.2⟩⟩⟩⟩)⟩, ⟨by (with_reducible repeat (first | apply Kd.N_alloc | apply Kd.N_drewN | apply Kd.N_drew)); exact Kd.N_mono HO_11.out (fun _ hk => ⟨hk.1.1, ⟨hk.1.2.1, ⟨hk.1.2.2.1, ⟨hk.1.2.2.2, hk.2⟩⟩⟩⟩)⟩, ⟨by (with_reducible repeat (first | apply zL | apply zM | apply zN)); exact HO_14.out⟩, ⟨by (with_reducible repeat (first | apply Kd.N_alloc | apply Kd.N_drewN | apply Kd.N_drew)); exact Kd.N_mono HO423.out (fun _ hk => ⟨hk.1.1, ⟨hk.1.2.1, ⟨hk.1.2.2.1, ⟨hk.1.2.2.2, hk.2⟩⟩⟩⟩)⟩, ⟨by (with_reducible repeat (first | apply Kd.N_alloc | apply Kd.N_drewN | apply Kd.N_drew)); exact HO432.out⟩, ⟨by repeat (first | (with_reducible first | exact HB.out | apply zJ | apply zD | apply zE) | exact HB.out)⟩⟩
                            ·rw [if_neg c56] at H
                             exact absurd H (by simp)
                           ·rw [if_neg c55] at H
                            exact absurd H (by simp)
                          ·rw [if_neg c52] at H
                           exact absurd H (by simp)
                         ·rw [if_neg c51] at H
                          exact absurd H (by simp)
                        ·rw [if_neg c50] at H
                         exact absurd H (by simp)
                       ·rw [if_neg c49] at H
                        exact absurd H (by simp)
                      ·rw [if_neg c48] at H
                       exact absurd H (by simp)
                     ·rw [if_neg c46] at H
                      exact absurd H (by simp)
                    ·rw [if_neg c45] at H
                     exact absurd H (by simp)
                   ·rw [if_neg c44] at H
                    have c44b0 : decide (x18_6 < (l2.length : Int)) = false := yD c44
                    clear c44
                    obtain ⟨ji63, hji63⟩ : ∃ j_ : Int, (wrap64 (x15_5 * (wrap64 ((l0.length : Int) / a1)))) = j_ := ⟨_, rfl⟩
                    replace H : (if 0 ≤ (ji63) then (if (ji63) ≤ (wrap64 ((wrap64 (x15_5 + 1)) * (wrap64 ((l0.length : Int) / a1)))) then (if (wrap64 ((wrap64 (x15_5 + 1)) * (wrap64 ((l0.length : Int) / a1)))) ≤ (l0.length : Int) then ((r19_Head.f k6 ((l0.take ((wrap64 ((wrap64 (x15_5 + 1)) * (wrap64 ((l0.length : Int) / a1)))) : Int).toNat).drop ((ji63) : Int).toNat) x16_6 x17_6 a3).bind fun bt434 => (if x14_5.length + bt434.1.length < 140737488355328 then (r19_Look.l1 k6 l0 a1 l2 a3 x10_2 x11_2 (wrap64 ((l0.length : Int) / a1)) (x14_5 ++ bt434.1) (wrap64 (x15_5 + 1))) else (none))) else (none)) else (none)) else (none)) = some (r1, r2) := by first | (rw [hji63] at H; exact H) | (simp only [hji63] at H ⊢; exact H)
                    have hji63w : (IntKind.i64.wrap (x15_5 * (wrap64 ((l0.length : Int) / a1)))) = ji63 := (i64_w _).trans hji63
                    by_cases c64 : 0 ≤ (ji63)
                    ·rw [if_pos c64] at H
                     have c64b0 := yg c64
                     have c64b1 : decide (0 ≤ (ji63)) = true := yC c64
                     clear c64
                     by_cases c65 : (ji63) ≤ (wrap64 ((wrap64 (x15_5 + 1)) * (wrap64 ((l0.length : Int) / a1))))
                     ·rw [if_pos c65] at H
                      have c65b0 := yg c65
                      have c65b1 : decide ((ji63) ≤ (wrap64 ((wrap64 (x15_5 + 1)) * (wrap64 ((l0.length : Int) / a1))))) = true := yC c65
                      by_cases c66 : (wrap64 ((wrap64 (x15_5 + 1)) * (wrap64 ((l0.length : Int) / a1)))) ≤ (l0.length : Int)
                      ·rw [if_pos c66] at H
                       have c66b0 := yg c66
                       have c66b1 : decide ((wrap64 ((wrap64 (x15_5 + 1)) * (wrap64 ((l0.length : Int) / a1)))) ≤ (l0.length : Int)) = true := yC c66
                       replace H := yA.mp H
                       obtain ⟨⟨t434, t435⟩, A670, H⟩ := H
                       replace H : (if x14_5.length + t434.length < 140737488355328 then (r19_Look.l1 k6 l0 a1 l2 a3 x10_2 x11_2 (wrap64 ((l0.length : Int) / a1)) (x14_5 ++ t434) (wrap64 (x15_5 + 1))) else (none)) = some (r1, r2) := H
                       have A67 := zK A670
                       clear A670
                       by_cases c68 : x14_5.length + t434.length < 140737488355328
                       ·rw [if_pos c68] at H
                        have LMc68 := zK c68
                        clear c68
                        obtain ⟨y438, hy438⟩ : ∃ y_ : List Int, y_ = (x14_5 ++ t434) := ⟨_, rfl⟩
                        replace H : (r19_Look.l1 k6 l0 a1 l2 a3 x10_2 x11_2 (wrap64 ((l0.length : Int) / a1)) y438 (wrap64 (x15_5 + 1))) = some (r1, r2) := by first | (rw [hy438]; with_reducible exact H) | (have H2_ := (yV _ _).symm.trans H; rw [hy438]; with_reducible exact H2_) | (have H2_ := (yV _ _).symm.trans H; with_reducible exact H2_) | with_reducible exact H | (rw [hy438]; exact H) | exact H
                        have Ny438 := zK hy438
                        clear hy438
                        have H' := zK H
                        clear H
                        obtain ⟨i069, hi069, _, hsz69, _⟩ := yj info53
                        obtain ⟨A69, hcut69, hA69, hC69⟩ := print_mid_of (P := Try.prog) (Value.int .i8) 0 22 53 .i64 .i64 Try.underlying22 hi069 hsz69 A0 c0 l0 (ji63) (wrap64 ((wrap64 (x15_5 + 1)) * (wrap64 ((l0.length : Int) / a1)))) (yB (by first | (with_reducible assumption) | assumption)) (by first | omega | exact yB (by first | (with_reducible assumption) | assumption)) (yB (by first | (with_reducible assumption) | assumption)) HC0.out
                        have HR433 := zK (Kd.C_of_reads (h1 := fun _ => rfl) (hA69 _ (Kd.reads_of_C HR0.out)))
                        have HC433 := zK hC69
                        clear hA69 hC69 hi069 hsz69
                        obtain ⟨Ao70, co70, eo70⟩ := Kd.N_slice HO_16.out
                        subst eo70
                        obtain ⟨Ao71, co71, eo71⟩ := Kd.N_slice HO_17.out
                        subst eo71
                        go_wp2_with (first | ((with_reducible refine gate_callee (f := 16) rfl ?_); refine goesL_ (some 132) rfl rfl Try.func16 (by kernel_rfl) rfl #[.slice A69 ((l0.take ((wrap64 ((wrap64 (x15_5 + 1)) * (wrap64 ((l0.length : Int) / a1)))) : Int).toNat).drop ((ji63) : Int).toNat).length (c0 - (ji63).toNat), .slice Ao70 x16_6.length co70, .slice Ao71 x17_6.length co71, .int .i64 a3] rfl (by (try simp only [yH, yI, yJ]); first | done | (rw [show ((l0.take ((wrap64 ((wrap64 (x15_5 + 1)) * (wrap64 ((l0.length : Int) / a1)))) : Int).toNat).drop ((ji63) : Int).toNat).length = ((wrap64 ((wrap64 (x15_5 + 1)) * (wrap64 ((l0.length : Int) / a1)))).toNat - (ji63).toNat) from (by rw [yG, yF]; have h_ : ((wrap64 ((wrap64 (x15_5 + 1)) * (wrap64 ((l0.length : Int) / a1)))) : Int) ≤ (l0.length : Int) := yB (by first | (with_reducible assumption) | assumption); omega)] <;> rfl) | (simp only [hji63]; rfl) | rfl | (simp only [yG, yF]; rfl)) ?_; (with_reducible refine (r19_Head.calls k6 _ _ ((l0.take ((wrap64 ((wrap64 (x15_5 + 1)) * (wrap64 ((l0.length : Int) / a1)))) : Int).toNat).drop ((ji63) : Int).toNat) _ _ x16_6 _ _ x17_6 a3 t434 t435 _ ?side1 ?side2 ?side3 ?side4 ?side5 ?side6 A67.out).mono ?_); (case side1 => repeat (first | exact (yc HR433.out HB.out) | (with_reducible refine yS ?_ _) | (with_reducible refine yT ?_ _) | (with_reducible refine yU ?_))); (case side2 => exact HC433.out); (case side3 => repeat (first | exact (Kd.N_reads' HO_16.out).2.2 | (with_reducible refine yS ?_ _) | (with_reducible refine yT ?_ _) | (with_reducible refine yU ?_))); (case side4 => exact (Kd.N_reads' HO_16.out).2.1); (case side5 => repeat (first | exact (Kd.N_reads' HO_17.out).2.2 | (with_reducible refine yS ?_ _) | (with_reducible refine yT ?_ _) | (with_reducible refine yU ?_))); (case side6 => exact (Kd.N_reads' HO_17.out).2.1); rintro e w72 ⟨v436, rfl, ho0, hb⟩; refine ⟨_, rfl, ?_⟩; have n0_ := zK (Kd.V_elder' (by (with_reducible repeat (first | apply Kd.V_alloc | apply Kd.V_drewN | apply Kd.V_drew)); exact HO_2.out) (Kd.R_base ho0) hb); have n1_ := zK (Kd.N_elder' (by (with_reducible repeat (first | apply Kd.N_alloc | apply Kd.N_drewN | apply Kd.N_drew)); exact HO_10.out) (Kd.R_base ho0) hb); have n2_ := zK (Kd.N_elder' (by (with_reducible repeat (first | apply Kd.N_alloc | apply Kd.N_drewN | apply Kd.N_drew)); exact HO_11.out) (Kd.R_base ho0) hb); have n3_ := zK (Kd.R_elder' (by (with_reducible repeat (first | apply zL | apply zM | apply zN)); exact HO_14.out) (Kd.R_base ho0) hb); have n4_ := zK (Kd.N_elder' (by (with_reducible repeat (first | apply Kd.N_alloc | apply Kd.N_drewN | apply Kd.N_drew)); exact HO_16.out) (Kd.R_base ho0) hb); have n5_ := zK (Kd.N_elder' (by (with_reducible repeat (first | apply Kd.N_alloc | apply Kd.N_drewN | apply Kd.N_drew)); exact HO_17.out) (Kd.R_base ho0) hb); have n6_ := zK (Kd.R_lower (Kd.R_new' (Kd.R_newM (M := fun k_ => (w.heap.size ≤ k_)) ho0 (yK (by repeat (first | (with_reducible first | exact HB.out | apply zJ | apply zD | apply zE) | exact HB.out))) (fun k_ h_ => h_)) (Kd.R_lt (by (with_reducible repeat (first | apply zL | apply zM | apply zN)); exact HO_14.out))) (yK (by repeat (first | (with_reducible first | exact HB.out | apply zJ | apply zD | apply zE) | exact HB.out)))); have n7_ := zK (yL (by repeat (first | (with_reducible first | exact HB.out | apply zJ | apply zD | apply zE) | exact HB.out)) hb); clear HO_2 HO_10 HO_11 HO_14 HO_16 HO_17 HB; have HO_2 := n0_; have HO_10 := n1_; have HO_11 := n2_; have HO_14 := n3_; have HO_16 := n4_; have HO_17 := n5_; have HO437 := n6_; have HB := n7_; clear n0_ n1_ n2_ n3_ n4_ n5_ n6_ n7_; (try clear hb); (try clear hb2); (try clear hk); (try clear hi); (try clear ho0); obtain ⟨Ao74, co74, eo74⟩ := Kd.R_slice HO437.out; subst eo74) | ((with_reducible refine gate_builtin (b := .append) (xs := #[.tmp 135, .tmp 136]) rfl ?_); at_builtin; refine Kd.R_append_rows (Kd.int .i8) (w0 := w) w.heap.size rfl (.tmp 135) (.tmp 136) 22 53 (.int .i8 0) 1 rfl Try.underlying22 info53 rfl (by decide) (by omega) u14 x14_5 t434 _ _ _ (fun k_ => (w.heap.size ≤ k_) ∧ some k_ ≠ (.slice Ao74 t434.length co74 : Value).ownBlock) (fun _ => False) rfl rfl ?aO ?aR (fun _ _ h => h) (fun _ h => h.elim) ?aF ?aB ?aS ?aL ?_; (case aR => repeat (first | exact (yM HO437.out).2.2 | (with_reducible refine yS ?_ _) | (with_reducible refine yT ?_ _) | (with_reducible refine yU ?_))); (case aB => exact (by repeat (first | (with_reducible first | exact HB.out | apply zJ | apply zD | apply zE) | exact HB.out))); (case aF => exact (fun k_ hk => ⟨(yl (yK (by repeat (first | (with_reducible first | exact HB.out | apply zJ | apply zD | apply zE) | exact HB.out))) hk), Kd.fresh' (Kd.R_lt (by (with_reducible repeat (first | apply zL | apply zM | apply zN)); exact HO437.out)) k_ hk⟩)); (case aO => exact (by (with_reducible repeat (first | apply zL | apply zM | apply zN)); exact HO_14.out)); (case aS => exact (yK (by repeat (first | (with_reducible first | exact HB.out | apply zJ | apply zD | apply zE) | exact HB.out)))); (case aL => have := LMc68.out; omega); intro v439 w73 ho hb hg hat; rw [← Ny438.out] at ho; have n0_ := zK (Kd.V_afterv (ok := (fun k_ => (P2_ k_ ∨ w.heap.size ≤ k_) ∧ some k_ ≠ (u10 : Value).ownBlock ∧ some k_ ≠ (u11 : Value).ownBlock ∧ some k_ ≠ (.slice Ao70 x16_6.length co70 : Value).ownBlock ∧ some k_ ≠ (.slice Ao71 x17_6.length co71 : Value).ownBlock ∧ some k_ ≠ (.slice Ao74 t434.length co74 : Value).ownBlock)) (by (with_reducible repeat (first | apply Kd.V_alloc | apply Kd.V_drewN | apply Kd.V_drew)); exact Kd.V_mono HO_2.out (fun _ hk => ⟨⟨hk.1.1, ⟨hk.1.2.1, ⟨hk.1.2.2.1, ⟨hk.1.2.2.2.2.1, ⟨hk.1.2.2.2.2.2, hk.2⟩⟩⟩⟩⟩, hk.1.2.2.2.1⟩)) hg hat); have n1_ := zK (Kd.N_afterv (ok := (fun k_ => (P2_ k_ ∨ w.heap.size ≤ k_) ∧ some k_ ≠ (u11 : Value).ownBlock ∧ some k_ ≠ (.slice Ao70 x16_6.length co70 : Value).ownBlock ∧ some k_ ≠ (.slice Ao71 x17_6.length co71 : Value).ownBlock ∧ some k_ ≠ (.slice Ao74 t434.length co74 : Value).ownBlock)) (by (with_reducible repeat (first | apply Kd.N_alloc | apply Kd.N_drewN | apply Kd.N_drew)); exact Kd.N_mono HO_10.out (fun _ hk => ⟨⟨hk.1.1, ⟨hk.1.2.1, ⟨hk.1.2.2.2.1, ⟨hk.1.2.2.2.2, hk.2⟩⟩⟩⟩, hk.1.2.2.1⟩)) hg hat); have n2_ := zK (Kd.N_afterv (ok := (fun k_ => (P2_ k_ ∨ w.heap.size ≤ k_) ∧ some k_ ≠ (u10 : Value).ownBlock ∧ some k_ ≠ (.slice Ao70 x16_6.length co70 : Value).ownBlock ∧ some k_ ≠ (.slice Ao71 x17_6.length co71 : Value).ownBlock ∧ some k_ ≠ (.slice Ao74 t434.length co74 : Value).ownBlock)) (by (with_reducible repeat (first | apply Kd.N_alloc | apply Kd.N_drewN | apply Kd.N_drew)); exact Kd.N_mono HO_11.out (fun _ hk => ⟨⟨hk.1.1, ⟨hk.1.2.1, ⟨hk.1.2.2.2.1, ⟨hk.1.2.2.2.2, hk.2⟩⟩⟩⟩, hk.1.2.2.1⟩)) hg hat); have n3_ := zK (Kd.N_afterv (ok := (fun k_ => (P2_ k_ ∨ w.heap.size ≤ k_) ∧ some k_ ≠ (u10 : Value).ownBlock ∧ some k_ ≠ (u11 : Value).ownBlock ∧ some k_ ≠ (.slice Ao71 x17_6.length co71 : Value).ownBlock ∧ some k_ ≠ (.slice Ao74 t434.length co74 : Value).ownBlock)) (by (with_reducible repeat (first | apply Kd.N_alloc | apply Kd.N_drewN | apply Kd.N_drew)); exact Kd.N_mono HO_16.out (fun _ hk => ⟨⟨hk.1.1, ⟨hk.1.2.1, ⟨hk.1.2.2.1, ⟨hk.1.2.2.2.2, hk.2⟩⟩⟩⟩, hk.1.2.2.2.1⟩)) hg hat); have n4_ := zK (Kd.N_afterv (ok := (fun k_ => (P2_ k_ ∨ w.heap.size ≤ k_) ∧ some k_ ≠ (u10 : Value).ownBlock ∧ some k_ ≠ (u11 : Value).ownBlock ∧ some k_ ≠ (.slice Ao70 x16_6.length co70 : Value).ownBlock ∧ some k_ ≠ (.slice Ao74 t434.length co74 : Value).ownBlock)) (by (with_reducible repeat (first | apply Kd.N_alloc | apply Kd.N_drewN | apply Kd.N_drew)); exact Kd.N_mono HO_17.out (fun _ hk => ⟨⟨hk.1.1, ⟨hk.1.2.1, ⟨hk.1.2.2.1, ⟨hk.1.2.2.2.2, hk.2⟩⟩⟩⟩, hk.1.2.2.2.1⟩)) hg hat); have n5_ := zK (Kd.R_after (ok := (fun k_ => (w.heap.size ≤ k_))) (by (with_reducible repeat (first | apply zL | apply zM | apply zN)); exact yd HO437.out (fun _ hk => ⟨hk.1.1, hk.2⟩)) hg hat); have n6_ := zK (hb); have n7_ := zK (ho); clear HO_2 HO_10 HO_11 HO_16 HO_17 HO437 HB HO_14; have HO_2 := n0_; have HO_10 := n1_; have HO_11 := n2_; have HO_16 := n3_; have HO_17 := n4_; have HO437 := n5_; have HB := n6_; have HO440 := n7_; clear n0_ n1_ n2_ n3_ n4_ n5_ n6_ n7_ ho hb hg hat))
                        go_roundg k6
                        case measure => have := HJ4.out; have := HK2.out; have := HJ20.out; have := HJ30.out; have := HK5.out; have := HK6.out; omega
                        case rel => exact ⟨(y438), (wrap64 (x15_5 + 1)), (by first | rfl | (simp; done) | (simp [*]; done)), H', ⟨by have := HJ4.out; have := HK2.out; have := HJ20.out; have := HJ30.out; have := HK5.out; have := HK6.out; omega⟩, ⟨by (with_reducible repeat (first | apply Kd.V_alloc | apply Kd.V_drewN | apply Kd.V_drew)); exact Kd.V_mono HO_2.out (fun _ hk => ⟨hk.1.1, ⟨hk.1.2.1, ⟨hk.1.2.2.1, hk.2⟩⟩⟩)⟩, ⟨by (with_reducible repeat (first | apply Kd.N_alloc | apply Kd.N_drewN | apply Kd.N_drew)); exact Kd.N_mono HO_10.out (fun _ hk => ⟨hk.1.1, ⟨hk.1.2.1, hk.2⟩⟩)⟩, ⟨by (with_reducible repeat (first | apply Kd.N_alloc | apply Kd.N_drewN | apply Kd.N_drew)); exact Kd.N_mono HO_11.out (fun _ hk => ⟨hk.1.1, ⟨hk.1.2.1, hk.2⟩⟩)⟩, ⟨by (with_reducible repeat (first | apply zL | apply zM | apply zN)); exact yd HO440.out (fun _ hk => hk.1)⟩, ⟨by repeat (first | (with_reducible first | exact HB.out | apply zJ | apply zD | apply zE) | exact HB.out)⟩⟩
                       ·rw [if_neg c68] at H
                        exact absurd H (by simp)
                      ·rw [if_neg c66] at H
                       exact absurd H (by simp)
                     ·rw [if_neg c65] at H
                      exact absurd H (by simp)
                    ·rw [if_neg c64] at H
                     exact absurd H (by simp)
                ·rw [if_neg c39] at H
                 have c39b0 : decide (x15_5 < a1) = false := yD c39
                 clear c39
                 simp only [yZ, ya] at H
                 obtain ⟨rfl, rfl⟩ := H
                 go_wp2
                 go_ret2
                 exact ⟨_, by first | rfl | (simp [errW_none, errW_some] <;> rfl) | (simp [*, errW_none, errW_some] <;> rfl), by (with_reducible repeat (first | apply zL | apply zM | apply zN)); exact HO_14.out, by repeat (first | (with_reducible first | exact HB.out | apply zJ | apply zD | apply zE) | exact HB.out)⟩

end Go.Proofs.Ytmjepdhjginelaa.B
