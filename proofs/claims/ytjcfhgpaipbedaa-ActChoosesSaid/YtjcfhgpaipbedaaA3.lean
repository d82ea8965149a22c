-- Printed by this session's own driver (wip/tools/xprint.py) over the kit's printer; given functions are this session's own.
import Derived.Test.YtjcfhgpaipbedaaA0
import Derived.Test.YtjcfhgpaipbedaaA1
import Derived.Test.YtjcfhgpaipbedaaA2
namespace Go.Proofs.Ytjcfhgpaipbedaa.A
open Go.RowKit Go.Proofs.YtjcfhgpaipbedaaW.PrintWords Go.Proofs.YtjcfhgpaipbedaaW.PrintLast Go.Proofs.YtjcfhgpaipbedaaW.PrintMore
attribute [local go_sem] max2_int min2_int max_two min_two max_three min_three max_four min_four   -- for this text's walks alone
set_option linter.unusedVariables false
set_option linter.unusedSimpArgs false

/-! ### vec_fit_int64: function 54 -/
mutual
def vec_fit_int64.l0 : Nat → List (List Int) → List (List Int) → Int → Int → Option (Int)
 | 0, _, _, _, _ => none
 | k + 1, x0, x7, x8, x9 => if x9 < x8 then (if 0 ≤ x9 then (if x9 < (x7.length : Int) then (if ((rd_L3 x7 x9).length : Int) > 1048576 then (some 81) else (vec_fit_int64.l0 k x0 x7 x8 (wrap64 (x9 + 1)))) else (none)) else (none)) else (vec_fit_int64.l1 k x0 x0 (x0.length : Int) 0)
def vec_fit_int64.l1 : Nat → List (List Int) → List (List Int) → Int → Int → Option (Int)
 | 0, _, _, _, _ => none
 | k + 1, x0, x17, x18, x19 => if x19 < x18 then (if 0 ≤ x19 then (if x19 < (x17.length : Int) then (if 0 < (x0.length : Int) then (if ((rd_L3 x17 x19).length : Int) = ((rd_L3 x0 0).length : Int) then (vec_fit_int64.l1 k x0 x17 x18 (wrap64 (x19 + 1))) else (some 80)) else (none)) else (none)) else (none)) else (some 0)
end
def vec_fit_int64.f (k : Nat) (l0 : List (List Int)) : Option (Int) := vec_fit_int64.l0 k l0 l0 (l0.length : Int) 0
theorem vec_fit_int64.mono_l : ∀ k, (∀ y0 y1 y2 y3, LeO (vec_fit_int64.l0 k y0 y1 y2 y3) (vec_fit_int64.l0 (k + 1) y0 y1 y2 y3)) ∧ (∀ y0 y1 y2 y3, LeO (vec_fit_int64.l1 k y0 y1 y2 y3) (vec_fit_int64.l1 (k + 1) y0 y1 y2 y3))
 | 0 => ⟨fun _ _ _ _ r h => by simp [vec_fit_int64.l0] at h, fun _ _ _ _ r h => by simp [vec_fit_int64.l1] at h⟩
 | k + 1 => by
  obtain ⟨ih0, ih1⟩ := vec_fit_int64.mono_l k
  refine ⟨?_, ?_⟩ <;> (intros; first | unfold vec_fit_int64.l0 | unfold vec_fit_int64.l1)
  all_goals repeat' first
   | (with_reducible exact ih0 _ _ _ _)
   | (with_reducible exact ih1 _ _ _ _)
   | (with_reducible exact yR _)
   | (with_reducible exact yO _)
   | (with_reducible refine yQ ?_ ?_)
   | (with_reducible refine yP ?_ (fun _ => ?_))
   | exact ih0 _ _ _ _
   | exact ih1 _ _ _ _
   | exact yO _
   | refine yQ ?_ ?_
   | refine yP ?_ (fun _ => ?_)
theorem vec_fit_int64.mono : ∀ a0 k, LeO (vec_fit_int64.f k a0) (vec_fit_int64.f (k + 1) a0) := by
 intro a0 k
 obtain ⟨ih0, ih1⟩ := vec_fit_int64.mono_l k
 unfold vec_fit_int64.f
 repeat' first
   | (with_reducible exact ih0 _ _ _ _)
   | (with_reducible exact ih1 _ _ _ _)
   | (with_reducible exact yR _)
   | (with_reducible exact yO _)
   | (with_reducible refine yQ ?_ ?_)
   | (with_reducible refine yP ?_ (fun _ => ?_))
   | exact ih0 _ _ _ _
   | exact ih1 _ _ _ _
   | exact yO _
   | refine yQ ?_ ?_
   | refine yP ?_ (fun _ => ?_)
set_option maxHeartbeats 8000000 in
set_option maxRecDepth 100000 in
theorem vec_fit_int64.calls (k : Nat) (A0 : Option Addr) (c0 : Nat) (l0 : List (List Int)) (r : Int) (w : World) (hr0 : Kd.C (Kd.slice 2 (Kd.int .i64)) w A0 l0.length l0) (hc0 : l0.length ≤ c0) (h : vec_fit_int64.f k l0 = some r) :
  Calls Try.prog 54 #[.slice A0 l0.length c0] w fun e w' => e = .returned (.int .i64 r) ∧ Drawn0 w w' := by
 have HR0 := zK hr0
 have HC0 := zK hc0
 clear hr0 hc0
 have H : (vec_fit_int64.l0 k l0 l0 (l0.length : Int) 0) = some r := h
 clear h
 have H' := zK H
 clear H
 go_enter Try.func54, Try.ntmps54
 go_wp2
 go_loopg [9] k (fun kq v9 w' => ∃ (x9_1 : Int), v9 = .int .i64 x9_1 ∧ Aside0 (vec_fit_int64.l0 kq l0 l0 (l0.length : Int) x9_1 = some r) ∧ Aside0 (kq ≤ k) ∧ Drawn0 w w')
 case atStart => exact ⟨(0), (by first | rfl | (simp; done) | (simp [*]; done)), H', ⟨yN _⟩, by repeat (first | exact Drawn0.refl _ | apply Drawn0.step)⟩
 case round =>
  clear H'
  obtain ⟨x9_1, rfl, HA, HK1, ⟨m1, rfl⟩⟩ := hrel
  cases gk with
  | zero => exact absurd HA.out (by simp [vec_fit_int64.l0])
  | succ k1 =>
   have H := HA.out
   clear HA
   simp only [vec_fit_int64.l0] at H
   by_cases c2 : x9_1 < (l0.length : Int)
   ·rw [if_pos c2] at H
    have c2b0 : decide (x9_1 < (l0.length : Int)) = true := yC c2
    clear c2
    by_cases c3 : 0 ≤ x9_1
    ·rw [if_pos c3] at H
     have c3b0 : decide (0 ≤ x9_1) = true := yC c3
     clear c3
     by_cases c4 : x9_1 < (l0.length : Int)
     ·rw [if_pos c4] at H
      have c4b0 : decide (x9_1 < (l0.length : Int)) = true := yC c4
      clear c4
      by_cases c5 : ((rd_L3 l0 x9_1).length : Int) > 1048576
      ·rw [if_pos c5] at H
       have c5b0 : decide (1048576 < ((rd_L3 l0 x9_1).length : Int)) = true := yC c5
       have c5b1 : decide (1048576 < (rd_L3 l0 x9_1).length) = true := yC (by omega)
       clear c5
       obtain rfl := yY H
       have p128 : 0 ≤ (x9_1 : Int) := yB (by first | (with_reducible assumption) | assumption)
       have q128 : x9_1 < (l0.length : Int) := yB (by first | (with_reducible assumption) | assumption)
       obtain ⟨ad128, A128_0, c128_0, e128, hx128_0, hl128_0, hi128_0⟩ := at_L3 HR0.out x9_1 p128 q128
       cases e128
       have HR128_0 := zK hi128_0
       have HC128_0 := zK hl128_0
       clear hi128_0 hl128_0
       replace p128 := yg p128
       replace q128 := yg q128
       go_wp2
       go_ret
       exact ⟨by first | rfl | (simp; done) | (simp [*]; done), by repeat (first | exact Drawn0.refl _ | apply Drawn0.step)⟩
      ·rw [if_neg c5] at H
       have c5b0 : decide (1048576 < ((rd_L3 l0 x9_1).length : Int)) = false := yD c5
       have c5b1 : decide (1048576 < (rd_L3 l0 x9_1).length) = false := yD (by omega)
       clear c5
       have H' := zK H
       clear H
       have p128 : 0 ≤ (x9_1 : Int) := yB (by first | (with_reducible assumption) | assumption)
       have q128 : x9_1 < (l0.length : Int) := yB (by first | (with_reducible assumption) | assumption)
       obtain ⟨ad128, A128_0, c128_0, e128, hx128_0, hl128_0, hi128_0⟩ := at_L3 HR0.out x9_1 p128 q128
       cases e128
       have HR128_0 := zK hi128_0
       have HC128_0 := zK hl128_0
       clear hi128_0 hl128_0
       replace p128 := yg p128
       replace q128 := yg q128
       go_wp2
       go_roundg k1
       case measure => have := HK1.out; omega
       case rel => exact ⟨(wrap64 (x9_1 + 1)), (by first | rfl | (simp; done) | (simp [*]; done)), H', ⟨by have := HK1.out; omega⟩, by repeat (first | exact Drawn0.refl _ | apply Drawn0.step)⟩
     ·rw [if_neg c4] at H
      exact absurd H (by simp)
    ·rw [if_neg c3] at H
     exact absurd H (by simp)
   ·rw [if_neg c2] at H
    have c2b0 : decide (x9_1 < (l0.length : Int)) = false := yD c2
    clear c2
    have H' := zK H
    clear H
    go_wp2
    go_loopg [19] k1 (fun kq v19 w' => ∃ (x19_2 : Int), v19 = .int .i64 x19_2 ∧ Aside0 (vec_fit_int64.l1 kq l0 l0 (l0.length : Int) x19_2 = some r) ∧ Aside0 (kq ≤ k1) ∧ Drawn0 w w')
    case atStart => exact ⟨(0), (by first | rfl | (simp; done) | (simp [*]; done)), H', ⟨yN _⟩, by repeat (first | exact Drawn0.refl _ | apply Drawn0.step)⟩
    case round =>
     clear H'
     try clear c1
     try clear p1
     try clear q1
     try clear hx1
     try clear c2
     try clear c2b0
     try clear p2
     try clear c3
     try clear c3b0
     try clear c4
     try clear c4b0
     try clear c5
     try clear c5b0
     try clear c5b1
     try clear hx128_0
     try clear p128
     try clear q128
     obtain ⟨x19_2, rfl, HA, HK2, ⟨m2, rfl⟩⟩ := hrel
     cases gk with
     | zero => exact absurd HA.out (by simp [vec_fit_int64.l1])
     | succ k2 =>
      have H := HA.out
      clear HA
      simp only [vec_fit_int64.l1] at H
      by_cases c6 : x19_2 < (l0.length : Int)
      ·rw [if_pos c6] at H
       have c6b0 : decide (x19_2 < (l0.length : Int)) = true := yC c6
       clear c6
       by_cases c7 : 0 ≤ x19_2
       ·rw [if_pos c7] at H
        have c7b0 : decide (0 ≤ x19_2) = true := yC c7
        clear c7
        by_cases c8 : x19_2 < (l0.length : Int)
        ·rw [if_pos c8] at H
         have c8b0 : decide (x19_2 < (l0.length : Int)) = true := yC c8
         clear c8
         by_cases c9 : 0 < (l0.length : Int)
         ·rw [if_pos c9] at H
          have c9b0 : decide (0 < (l0.length : Int)) = true := yC c9
          have c9b1 : decide (0 < l0.length) = true := yC (by omega)
          clear c9
          by_cases c10 : ((rd_L3 l0 x19_2).length : Int) = ((rd_L3 l0 0).length : Int)
          ·rw [if_pos c10] at H
           have c10b0 : (((rd_L3 l0 x19_2).length : Int) == ((rd_L3 l0 0).length : Int)) = true := beq_iff_eq.mpr c10
           have c10b1 : (((rd_L3 l0 x19_2).length : Int) != ((rd_L3 l0 0).length : Int)) = false := bne_eq_false_iff_eq.mpr c10
           have c10b2 : ((rd_L3 l0 x19_2).length == (rd_L3 l0 0).length) = true := by first | simpa using c10 | (simp at c10 ⊢; omega)
           clear c10
           have H' := zK H
           clear H
           have p129 : 0 ≤ (x19_2 : Int) := yB (by first | (with_reducible assumption) | assumption)
           have q129 : x19_2 < (l0.length : Int) := yB (by first | (with_reducible assumption) | assumption)
           obtain ⟨ad129, A129_0, c129_0, e129, hx129_0, hl129_0, hi129_0⟩ := at_L3 HR0.out x19_2 p129 q129
           cases e129
           have HR129_0 := zK hi129_0
           have HC129_0 := zK hl129_0
           clear hi129_0 hl129_0
           replace p129 := yg p129
           replace q129 := yg q129
           have p130 : 0 ≤ (0 : Int) := (by omega)
           have q130 : 0 < (l0.length : Int) := yB (by first | (with_reducible assumption) | assumption)
           obtain ⟨ad130, A130_0, c130_0, e130, hx130_0, hl130_0, hi130_0⟩ := at_L3 HR0.out 0 p130 q130
           obtain rfl : ad129 = ad130 := (by injection e130)
           have qi130 : (0 < l0.length) = True := yg (by omega)
           (try rw [show ((0 : Int)).toNat = 0 from rfl] at hx130_0)
           (try rw [Addr.add_zero'] at hx130_0)
           have HR130_0 := zK hi130_0
           have HC130_0 := zK hl130_0
           clear hi130_0 hl130_0
           replace p130 := yg p130
           replace q130 := yg q130
           go_wp2
           go_roundg k2
           case measure => have := HK1.out; have := HK2.out; omega
           case rel => exact ⟨(wrap64 (x19_2 + 1)), (by first | rfl | (simp; done) | (simp [*]; done)), H', ⟨by have := HK1.out; have := HK2.out; omega⟩, by repeat (first | exact Drawn0.refl _ | apply Drawn0.step)⟩
          ·rw [if_neg c10] at H
           have c10b0 : (((rd_L3 l0 x19_2).length : Int) == ((rd_L3 l0 0).length : Int)) = false := beq_eq_false_iff_ne.mpr c10
           have c10b1 : (((rd_L3 l0 x19_2).length : Int) != ((rd_L3 l0 0).length : Int)) = true := bne_iff_ne.mpr c10
           have c10b2 : ((rd_L3 l0 x19_2).length == (rd_L3 l0 0).length) = false := by first | simpa using c10 | (simp at c10 ⊢; omega)
           obtain rfl := yY H
           have p129 : 0 ≤ (x19_2 : Int) := yB (by first | (with_reducible assumption) | assumption)
           have q129 : x19_2 < (l0.length : Int) := yB (by first | (with_reducible assumption) | assumption)
           obtain ⟨ad129, A129_0, c129_0, e129, hx129_0, hl129_0, hi129_0⟩ := at_L3 HR0.out x19_2 p129 q129
           cases e129
           have HR129_0 := zK hi129_0
           have HC129_0 := zK hl129_0
           clear hi129_0 hl129_0
           replace p129 := yg p129
           replace q129 := yg q129
           have p130 : 0 ≤ (0 : Int) := (by omega)
           have q130 : 0 < (l0.length : Int) := yB (by first | (with_reducible assumption) | assumption)
           obtain ⟨ad130, A130_0, c130_0, e130, hx130_0, hl130_0, hi130_0⟩ := at_L3 HR0.out 0 p130 q130
           obtain rfl : ad129 = ad130 := (by injection e130)
           have qi130 : (0 < l0.length) = True := yg (by omega)
           (try rw [show ((0 : Int)).toNat = 0 from rfl] at hx130_0)
           (try rw [Addr.add_zero'] at hx130_0)
           have HR130_0 := zK hi130_0
           have HC130_0 := zK hl130_0
           clear hi130_0 hl130_0
           replace p130 := yg p130
           replace q130 := yg q130
           go_wp2
           go_ret
           exact ⟨by first | rfl | (simp; done) | (simp [*]; done), by repeat (first | exact Drawn0.refl _ | apply Drawn0.step)⟩
         ·rw [if_neg c9] at H
          exact absurd H (by simp)
        ·rw [if_neg c8] at H
         exact absurd H (by simp)
       ·rw [if_neg c7] at H
        exact absurd H (by simp)
      ·rw [if_neg c6] at H
       have c6b0 : decide (x19_2 < (l0.length : Int)) = false := yD c6
       clear c6
       obtain rfl := yY H
       go_wp2
       go_ret
       exact ⟨by first | rfl | (simp; done) | (simp [*]; done), by repeat (first | exact Drawn0.refl _ | apply Drawn0.step)⟩

/-! ### vec_Scale: function 32 -/
def vec_Scale.l0 : Nat → Int → List Int → List Int → Int → Int → Option (List Int × Int)
 | 0, _, _, _, _, _ => none
 | k + 1, x1, x9, x29, x30, x31 => if x31 < x30 then (if 0 ≤ x31 then (if x31 < (x29.length : Int) then ((fixed_Round.f (rd x29 x31) x1).bind fun bt141 => (if x31 < (x9.length : Int) then (vec_Scale.l0 k x1 (x9.set (x31 : Int).toNat bt141.1) x29 x30 (wrap64 (x31 + 1))) else (none))) else (none)) else (none)) else (some (x9, 0))
def vec_Scale.f (k : Nat) (l0 : List Int) (a1 : Int) : Option (List Int × Int) := (vec_fit_int64.f k (([l0] : List (List Int)))).bind fun t134 => (if t134 = 0 then ((fixed_Round.f 0 a1).bind fun bt135 => (if bt135.2 = 0 then (if 0 ≤ (l0.length : Int) then (if ((l0.length : Int) : Int).toNat ≤ 35184372088832 then (vec_Scale.l0 k a1 (List.replicate ((l0.length : Int) : Int).toNat 0) l0 (l0.length : Int) 0) else (none)) else (none)) else (some (([] : List Int), bt135.2)))) else (some (([] : List Int), t134)))
theorem vec_Scale.mono_l : ∀ k, (∀ y0 y1 y2 y3 y4, LeO (vec_Scale.l0 k y0 y1 y2 y3 y4) (vec_Scale.l0 (k + 1) y0 y1 y2 y3 y4))
 | 0 => fun _ _ _ _ _ r h => by simp [vec_Scale.l0] at h
 | k + 1 => by
  have ih0 := vec_Scale.mono_l k
  intros
  unfold vec_Scale.l0
  all_goals repeat' first
   | (with_reducible exact ih0 _ _ _ _ _)
   | (with_reducible exact vec_fit_int64.mono _ _)
   | (with_reducible exact yR _)
   | (with_reducible exact yO _)
   | (with_reducible refine yQ ?_ ?_)
   | (with_reducible refine yP ?_ (fun _ => ?_))
   | exact ih0 _ _ _ _ _
   | exact vec_fit_int64.mono _ _
   | exact yO _
   | refine yQ ?_ ?_
   | refine yP ?_ (fun _ => ?_)
theorem vec_Scale.mono : ∀ a0 a1 k, LeO (vec_Scale.f k a0 a1) (vec_Scale.f (k + 1) a0 a1) := by
 intro a0 a1 k
 have ih0 := vec_Scale.mono_l k
 unfold vec_Scale.f
 repeat' first
   | (with_reducible exact ih0 _ _ _ _ _)
   | (with_reducible exact vec_fit_int64.mono _ _)
   | (with_reducible exact yR _)
   | (with_reducible exact yO _)
   | (with_reducible refine yQ ?_ ?_)
   | (with_reducible refine yP ?_ (fun _ => ?_))
   | exact ih0 _ _ _ _ _
   | exact vec_fit_int64.mono _ _
   | exact yO _
   | refine yQ ?_ ?_
   | refine yP ?_ (fun _ => ?_)
set_option maxHeartbeats 8000000 in
set_option maxRecDepth 100000 in
theorem vec_Scale.calls (k : Nat) (P0_ : Nat → Prop) (A0 : Option Addr) (c0 : Nat) (l0 : List Int) (a1 : Int) (r1 : List Int) (r2 : Int) (w : World) (hs0 : Kd.V (Kd.int .i64) 2 w w.heap.size (fun k_ => P0_ k_) (.slice A0 l0.length c0) l0) (h : vec_Scale.f k l0 a1 = some (r1, r2)) :
  Calls Try.prog 32 #[.slice A0 l0.length c0, .int .i64 a1] w fun e w' => ∃ v0_ : Value, e = .returned (.tuple #[v0_, .int .i64 r2]) ∧ Kd.R (Kd.int .i64) 2 w' w.heap.size (fun k_ => (w.heap.size ≤ k_)) v0_ r1 ∧ Below w.heap.size w w' := by
 have HO0 := zK (show Kd.V (Kd.int .i64) 2 w w.heap.size (fun k_ => (P0_ k_ ∨ w.heap.size ≤ k_)) (.slice A0 l0.length c0) l0 from Kd.V_mono hs0 (fun k_ hk => .inl hk))
 have HB := zK (Below.refl w.heap.size w)
 have H : ((vec_fit_int64.f k (([l0] : List (List Int)))).bind fun t134 => (if t134 = 0 then ((fixed_Round.f 0 a1).bind fun bt135 => (if bt135.2 = 0 then (if 0 ≤ (l0.length : Int) then (if ((l0.length : Int) : Int).toNat ≤ 35184372088832 then (vec_Scale.l0 k a1 (List.replicate ((l0.length : Int) : Int).toNat 0) l0 (l0.length : Int) 0) else (none)) else (none)) else (some (([] : List Int), bt135.2)))) else (some (([] : List Int), t134)))) = some (r1, r2) := h
 clear h
 obtain ⟨y131, hy131⟩ : ∃ y_ : List (List Int), y_ = (([l0] : List (List Int))) := ⟨_, rfl⟩
 replace H : ((vec_fit_int64.f k y131).bind fun t134 => (if t134 = 0 then ((fixed_Round.f 0 a1).bind fun bt135 => (if bt135.2 = 0 then (if 0 ≤ (l0.length : Int) then (if ((l0.length : Int) : Int).toNat ≤ 35184372088832 then (vec_Scale.l0 k a1 (List.replicate ((l0.length : Int) : Int).toNat 0) l0 (l0.length : Int) 0) else (none)) else (none)) else (some (([] : List Int), bt135.2)))) else (some (([] : List Int), t134)))) = some (r1, r2) := by first | (rw [hy131]; with_reducible exact H) | (have H2_ := (yV _ _).symm.trans H; rw [hy131]; with_reducible exact H2_) | (have H2_ := (yV _ _).symm.trans H; with_reducible exact H2_) | with_reducible exact H | (rw [hy131]; exact H) | exact H
 have Ny131 := zK hy131
 clear hy131
 replace H := yA.mp H
 obtain ⟨t134, A30, H⟩ := H
 replace H : (if t134 = 0 then ((fixed_Round.f 0 a1).bind fun bt135 => (if bt135.2 = 0 then (if 0 ≤ (l0.length : Int) then (if ((l0.length : Int) : Int).toNat ≤ 35184372088832 then (vec_Scale.l0 k a1 (List.replicate ((l0.length : Int) : Int).toNat 0) l0 (l0.length : Int) 0) else (none)) else (none)) else (some (([] : List Int), bt135.2)))) else (some (([] : List Int), t134))) = some (r1, r2) := H
 have A3 := zK A30
 clear A30
 by_cases c4 : t134 = 0
 ·rw [if_pos c4] at H
  have c4b0 : (t134 == 0) = true := beq_iff_eq.mpr c4
  have c4b1 : (t134 != 0) = false := bne_eq_false_iff_eq.mpr c4
  clear c4
  replace H := yA.mp H
  obtain ⟨⟨t135, t136⟩, A50, H⟩ := H
  replace H : (if t136 = 0 then (if 0 ≤ (l0.length : Int) then (if ((l0.length : Int) : Int).toNat ≤ 35184372088832 then (vec_Scale.l0 k a1 (List.replicate ((l0.length : Int) : Int).toNat 0) l0 (l0.length : Int) 0) else (none)) else (none)) else (some (([] : List Int), t136))) = some (r1, r2) := H
  have A5 := zK A50
  clear A50
  by_cases c6 : t136 = 0
  ·rw [if_pos c6] at H
   have c6b0 : (t136 == 0) = true := beq_iff_eq.mpr c6
   have c6b1 : (t136 != 0) = false := bne_eq_false_iff_eq.mpr c6
   clear c6
   by_cases c7 : 0 ≤ (l0.length : Int)
   ·rw [if_pos c7] at H
    have c7b0 := yg c7
    have c7b1 : decide (0 ≤ (l0.length : Int)) = true := yC c7
    clear c7
    by_cases c8 : ((l0.length : Int) : Int).toNat ≤ 35184372088832
    ·rw [if_pos c8] at H
     have c8b0 := yg c8
     have c8b1 : decide (((l0.length : Int) : Int).toNat ≤ 35184372088832) = true := yC c8
     clear c8
     obtain ⟨y137, hy137⟩ : ∃ y_ : List Int, y_ = (List.replicate ((l0.length : Int) : Int).toNat 0) := ⟨_, rfl⟩
     replace H : (vec_Scale.l0 k a1 y137 l0 (l0.length : Int) 0) = some (r1, r2) := by first | (rw [hy137]; with_reducible exact H) | (have H2_ := (yV _ _).symm.trans H; rw [hy137]; with_reducible exact H2_) | (have H2_ := (yV _ _).symm.trans H; with_reducible exact H2_) | with_reducible exact H | (rw [hy137]; exact H) | exact H
     have Ny137 := zK hy137
     clear hy137
     have H' := zK H
     clear H
     go_enter Try.func32, Try.ntmps32
     go_wp2_with (first | ((with_reducible refine gate_dst (N := 13) rfl ?_); refine Kd.N_lit (Kd.slice 2 (Kd.int .i64)) _ 38 ?hg (N' := 13) ?hd (xs := ([l0] : List (List Int))) (inner := [.slice A0 l0.length c0]) (ok := (fun k_ => (P0_ k_ ∨ w.heap.size ≤ k_))) (okp := (fun k_ => (P0_ k_ ∨ w.heap.size ≤ k_))) ?hr ?hp (fun _ hk => hk) ((show ∀ k_, w.heap.size ≤ k_ → (fun k_ => (P0_ k_ ∨ w.heap.size ≤ k_)) k_ from fun k_ hk => (.inr (yl (yK (by repeat (first | (with_reducible first | exact HB.out | apply zJ | apply zD | apply zE) | exact HB.out))) hk))) _ (yN _)) (Below.refl _ _) (yN _) (by simp) ?_; (case hd => rfl); (case hg => rfl); (case hr => first | (go_simp; done) | (go_simp; rfl)); (case hp => exact (Reps.one (show Kd.FK (Kd.slice 2 (Kd.int .i64)) _ _ l0 [.slice A0 l0.length c0] from (Kd.FK_slice_mk (Kd.V_reads' (Kd.V_mono (ok' := (fun k_ => (P0_ k_ ∨ w.heap.size ≤ k_))) (HO0.out) (fun k_ hk => hk))).2.1 (Kd.V_F (Kd.V_mono (ok' := (fun k_ => (P0_ k_ ∨ w.heap.size ≤ k_))) (HO0.out) (fun k_ hk => hk))))) (Reps.none _ _))); intro v132 w9 ho10 hb hg_ hnew_; clear hg_ hnew_; (first | rw [← Ny131.out] at ho10 | (simp only [Int.reduceToNat] at ho10; rw [← Ny131.out] at ho10)); have n0_ := zK (Kd.V_elder' (by (with_reducible repeat (first | apply Kd.V_alloc | apply Kd.V_drewN | apply Kd.V_drew)); exact HO0.out) (Kd.N_base ho10) hb); have n1_ := zK (Kd.N_lower ho10 (yK (by repeat (first | (with_reducible first | exact HB.out | apply zJ | apply zD | apply zE) | exact HB.out)))); have n2_ := zK (yL (by repeat (first | (with_reducible first | exact HB.out | apply zJ | apply zD | apply zE) | exact HB.out)) hb); clear HO0 HB; have HO0 := n0_; have HO133 := n1_; have HB := n2_; clear n0_ n1_ n2_ hb ho10; obtain ⟨Ao11, co11, eo11⟩ := Kd.N_slice HO133.out; subst eo11) | ((with_reducible refine gate_callee (f := 54) rfl ?_); refine goesL_ (some 14) rfl rfl Try.func54 (by kernel_rfl) rfl #[.slice Ao11 y131.length co11] rfl (by (try simp only [yH, yI, yJ]); first | done | rfl | (simp only [yG, yF]; rfl)) ?_; (with_reducible refine (vec_fit_int64.calls k _ _ y131 t134 _ ?side1 ?side2 A3.out).mono ?_); (case side1 => repeat (first | exact (Kd.N_reads' HO133.out).2.2 | (with_reducible refine yS ?_ _) | (with_reducible refine yT ?_ _) | (with_reducible refine yU ?_))); (case side2 => exact (Kd.N_reads' HO133.out).2.1); rintro e w' ⟨rfl, ⟨nd, rfl⟩⟩; refine ⟨_, rfl, ?_⟩) | ((with_reducible refine gate_callee (f := 46) rfl ?_); refine goesL_ (some 20) rfl rfl Try.func46 (by kernel_rfl) rfl #[.int .i64 0, .int .i64 a1] rfl (by (try simp only [yH, yI, yJ]); first | done | rfl | (simp only [yG, yF]; rfl)) ?_; (with_reducible refine (fixed_Round.calls 0 a1 t135 t136 _ A5.out).mono ?_); rintro e w' ⟨rfl, ⟨nd, rfl⟩⟩; refine ⟨_, rfl, ?_⟩) | ((with_reducible refine gate_dst (N := 28) rfl ?_); refine Kd.R_make (Kd.int .i64) _ 2 rfl (N := 28) rfl 38 _ _ rfl (l0.length : Int) rfl rfl Try.underlying38 (.int .i64 0) 8 info2 rfl (by decide) (by omega) 0 (ok := fun _ => True) (okp := fun _ => True) rfl (fun _ hk => hk) trivial (yB (by first | (with_reducible assumption) | assumption)) (yl (Nat.mul_le_mul_right _ (yB (by first | (with_reducible assumption) | assumption) : (l0.length : Int).toNat ≤ 35184372088832)) (by omega)) (Below.refl _ _) (yN _) ?_; intro v138 w12 ho13 hb hg_ hnew_; clear hg_ hnew_; (first | rw [← Ny137.out] at ho13 | (simp only [Int.reduceToNat] at ho13; rw [← Ny137.out] at ho13)); have n0_ := zK (Kd.V_elder' (by (with_reducible repeat (first | apply Kd.V_alloc | apply Kd.V_drewN | apply Kd.V_drew)); exact HO0.out) (Kd.R_base ho13) hb); have n1_ := zK (Kd.N_elder' (by (with_reducible repeat (first | apply Kd.N_alloc | apply Kd.N_drewN | apply Kd.N_drew)); exact HO133.out) (Kd.R_base ho13) hb); have n2_ := zK (Kd.R_lower (Kd.R_newM (M := fun k_ => (w.heap.size ≤ k_)) ho13 (yK (by repeat (first | (with_reducible first | exact HB.out | apply zJ | apply zD | apply zE) | exact HB.out))) (fun k_ h_ => h_)) (yK (by repeat (first | (with_reducible first | exact HB.out | apply zJ | apply zD | apply zE) | exact HB.out)))); have n3_ := zK (yL (by repeat (first | (with_reducible first | exact HB.out | apply zJ | apply zD | apply zE) | exact HB.out)) hb); clear HO0 HO133 HB; have HO0 := n0_; have HO133 := n1_; have HO139 := n2_; have HB := n3_; clear n0_ n1_ n2_ n3_ hb ho13))
     go_loopg [31] k (fun kq v31 w' => ∃ (x9_1 : List Int) (x31_1 : Int), v31 = .int .i64 x31_1 ∧ Aside0 (vec_Scale.l0 kq a1 x9_1 l0 (l0.length : Int) x31_1 = some (r1, r2)) ∧ Aside0 (kq ≤ k) ∧ Aside0 (Kd.R (Kd.int .i64) 2 w' w.heap.size (fun k_ => (w.heap.size ≤ k_)) v138 x9_1) ∧ Aside0 (Kd.V (Kd.int .i64) 2 w' w.heap.size (fun k_ => (P0_ k_ ∨ w.heap.size ≤ k_) ∧ some k_ ≠ (v138 : Value).ownBlock) (.slice A0 l0.length c0) l0) ∧ Aside0 (Below w.heap.size w w'))
     case atStart => exact ⟨(y137), (0), (by first | rfl | (simp; done) | (simp [*]; done)), H', ⟨yN _⟩, ⟨by (with_reducible repeat (first | apply zL | apply zM | apply zN)); exact yd HO139.out (fun _ hk => hk.1)⟩, ⟨by (with_reducible repeat (first | apply Kd.V_alloc | apply Kd.V_drewN | apply Kd.V_drew)); exact Kd.V_mono HO0.out (fun _ hk => ⟨hk.1.1, hk.2⟩)⟩, ⟨by repeat (first | (with_reducible first | exact HB.out | apply zJ | apply zD | apply zE) | exact HB.out)⟩⟩
     case round =>
      clear H'
      try clear p2
      try clear c3
      try clear c4
      try clear c4b0
      try clear c4b1
      try clear c5
      try clear c6
      try clear c6b0
      try clear c6b1
      try clear c7
      try clear c7b0
      try clear c7b1
      try clear c8
      try clear c8b0
      try clear c8b1
      obtain ⟨x9_1, x31_1, rfl, HA, HK1, HO_9, HO_29, HB⟩ := hrel
      cases gk with
      | zero => exact absurd HA.out (by simp [vec_Scale.l0])
      | succ k1 =>
       have H := HA.out
       clear HA
       simp only [vec_Scale.l0] at H
       by_cases c14 : x31_1 < (l0.length : Int)
       ·rw [if_pos c14] at H
        have c14b0 : decide (x31_1 < (l0.length : Int)) = true := yC c14
        clear c14
        by_cases c15 : 0 ≤ x31_1
        ·rw [if_pos c15] at H
         have c15b0 : decide (0 ≤ x31_1) = true := yC c15
         clear c15
         by_cases c16 : x31_1 < (l0.length : Int)
         ·rw [if_pos c16] at H
          have c16b0 : decide (x31_1 < (l0.length : Int)) = true := yC c16
          clear c16
          replace H := yA.mp H
          obtain ⟨⟨t141, t142⟩, A170, H⟩ := H
          replace H : (if x31_1 < (x9_1.length : Int) then (vec_Scale.l0 k1 a1 (x9_1.set (x31_1 : Int).toNat t141) l0 (l0.length : Int) (wrap64 (x31_1 + 1))) else (none)) = some (r1, r2) := H
          have A17 := zK A170
          clear A170
          by_cases c18 : x31_1 < (x9_1.length : Int)
          ·rw [if_pos c18] at H
           have c18b0 : decide (x31_1 < (x9_1.length : Int)) = true := yC c18
           clear c18
           obtain ⟨y143, hy143⟩ : ∃ y_ : List Int, y_ = (x9_1.set (x31_1 : Int).toNat t141) := ⟨_, rfl⟩
           replace H : (vec_Scale.l0 k1 a1 y143 l0 (l0.length : Int) (wrap64 (x31_1 + 1))) = some (r1, r2) := by first | (rw [hy143]; with_reducible exact H) | (have H2_ := (yV _ _).symm.trans H; rw [hy143]; with_reducible exact H2_) | (have H2_ := (yV _ _).symm.trans H; with_reducible exact H2_) | with_reducible exact H | (rw [hy143]; exact H) | exact H
           have Ny143 := zK hy143
           clear hy143
           have H' := zK H
           clear H
           have p140 : 0 ≤ (x31_1 : Int) := yB (by first | (with_reducible assumption) | assumption)
           have q140 : x31_1 < (l0.length : Int) := yB (by first | (with_reducible assumption) | assumption)
           obtain ⟨ad140, e140, hx140_0⟩ := Kd.at_int (Kd.V_reads' HO_29.out).2.2 x31_1 p140 q140
           cases e140
           replace p140 := yg p140
           replace q140 := yg q140
           go_wp2_with (first | ((with_reducible refine gate_callee (f := 46) rfl ?_); refine goesL_ (some 41) rfl rfl Try.func46 (by kernel_rfl) rfl #[.int .i64 (rd l0 x31_1), .int .i64 a1] rfl (by (try simp only [yH, yI, yJ]); first | done | rfl | (simp only [yG, yF]; rfl)) ?_; (with_reducible refine (fixed_Round.calls (rd l0 x31_1) a1 t141 t142 _ A17.out).mono ?_); rintro e w' ⟨rfl, ⟨nd, rfl⟩⟩; refine ⟨_, rfl, ?_⟩; (try (rw [drewN_self wr]; generalize hq_ : World.drewN wr _ = wr; have n0_ : Aside0 (Kd.V (Kd.int .i64) 2 wr w.heap.size (fun k_ => (P0_ k_ ∨ w.heap.size ≤ k_) ∧ some k_ ≠ (v138 : Value).ownBlock) (.slice (some ad140) l0.length c0) l0) := ⟨by rw [← hq_]; exact (by (with_reducible repeat (first | apply Kd.V_alloc | apply Kd.V_drewN | apply Kd.V_drew)); exact HO_29.out)⟩; have n1_ : Aside0 (Kd.R (Kd.int .i64) 2 wr w.heap.size (fun k_ => (w.heap.size ≤ k_)) v138 x9_1) := ⟨by rw [← hq_]; exact (by (with_reducible repeat (first | apply zL | apply zM | apply zN)); exact HO_9.out)⟩; have n2_ : Aside0 (Below w.heap.size w wr) := ⟨by rw [← hq_]; exact (by repeat (first | (with_reducible first | exact HB.out | apply zJ | apply zD | apply zE) | exact HB.out))⟩; clear HO_29 HO_9 HB hq_; have HO_29 := n0_; have HO_9 := n1_; have HB := n2_; clear n0_ n1_ n2_)); have p19 : 0 ≤ (x31_1 : Int) := yB (by first | (with_reducible assumption) | assumption); have q19 : (x31_1 : Int) < ((x9_1.length : Int) : Int) := yB (by first | (with_reducible assumption) | assumption); obtain ⟨go19, co19, eo19, Z5, gl19, cl19, HG19⟩ := Kd.R_form HO_9.out (by omega); (first | cases eo19 | (injection eo19 with ea_ en_ ec_; (first | subst ea_ | (injection ea_ with ea_; subst ea_)); subst ec_; clear en_)); have GB19 := zK Z5; have GG19 := zK HG19; clear Z5 gl19 HG19; obtain ⟨hx19_0, hf19_0⟩ := Kd.R_celln 0 HO_9.out (x31_1 : Int) p19 q19; replace p19 := yg p19; replace q19 := yg q19; obtain ⟨hy20_, hz20_⟩ := Kd.R_celln 0 HO_9.out (x31_1 : Int) (yB (by first | (with_reducible assumption) | assumption)) (yB (by first | (with_reducible assumption) | assumption)); have HP20 := Kd.R_putg HO_9.out (x31_1 : Int) t141) | ((with_reducible refine gate_store (t := 2) (p := 44) rfl ?_); refine store_event (t := 2) (p := 44) (v := ?vo_w21) (w1 := (wr.setCell ⟨go19, (x31_1 : Int).toNat, none⟩ (.int .i64 t141))) ?hg ?ho ?hn ?hr ?_; (case ho => rfl); (case hg => rfl); (case hn => rfl); (case hr => first | (go_simp; done) | (go_simp; rfl)); intro w21 hw; have hg : wr.grownBy w21 (some go19) := (by rw [hw]; exact HP20.2); have hp_ : Kd.R (Kd.int .i64) 2 w21 w.heap.size (fun k_ => (w.heap.size ≤ k_)) (.slice (some ⟨go19, 0, none⟩) x9_1.length co19) y143 := (by rw [hw, Ny143.out]; exact HP20.1); clear HP20; have n0_ := zK (hp_); have n1_ := zK (Kd.V_afterv (v := (.slice (some ⟨go19, 0, none⟩) x9_1.length co19)) (v1 := (.slice (some ⟨go19, 0, none⟩) x9_1.length co19)) (ok := (fun k_ => (P0_ k_ ∨ w.heap.size ≤ k_))) (by (with_reducible repeat (first | apply Kd.V_alloc | apply Kd.V_drewN | apply Kd.V_drew)); exact HO_29.out) hg (.inl rfl)); have n2_ := zK ((by rw [hw]; exact zI (HB.out) GB19.out : Below w.heap.size w w21)); clear HO_9 HO_29 HB; have HO_9 := n0_; have HO_29 := n1_; have HB := n2_; clear n0_ n1_ n2_ hg hw hp_))
           go_roundg k1
           case measure => have := HK1.out; omega
           case rel => exact ⟨(y143), (wrap64 (x31_1 + 1)), (by first | rfl | (simp; done) | (simp [*]; done)), H', ⟨by have := HK1.out; omega⟩, ⟨by (with_reducible repeat (first | apply zL | apply zM | apply zN)); exact HO_9.out⟩, ⟨by (with_reducible repeat (first | apply Kd.V_alloc | apply Kd.V_drewN | apply Kd.V_drew)); exact HO_29.out⟩, ⟨by repeat (first | (with_reducible first | exact HB.out | apply zJ | apply zD | apply zE) | exact HB.out)⟩⟩
          ·rw [if_neg c18] at H
           exact absurd H (by simp)
         ·rw [if_neg c16] at H
          exact absurd H (by simp)
        ·rw [if_neg c15] at H
         exact absurd H (by simp)
       ·rw [if_neg c14] at H
        have c14b0 : decide (x31_1 < (l0.length : Int)) = false := yD c14
        clear c14
        simp only [yZ, ya] at H
        obtain ⟨rfl, rfl⟩ := H
        go_wp2
        go_ret2
        exact ⟨_, by first | rfl | (simp [errW_none, errW_some] <;> rfl) | (simp [*, errW_none, errW_some] <;> rfl), by (with_reducible repeat (first | apply zL | apply zM | apply zN)); exact HO_9.out, by repeat (first | (with_reducible first | exact HB.out | apply zJ | apply zD | apply zE) | exact HB.out)⟩
    ·rw [if_neg c8] at H
     exact absurd H (by simp)
   ·rw [if_neg c7] at H
    exact absurd H (by simp)
  ·rw [if_neg c6] at H
   have c6b0 : (t136 == 0) = false := beq_eq_false_iff_ne.mpr c6
   have c6b1 : (t136 != 0) = true := bne_iff_ne.mpr c6
   simp only [yZ, ya] at H
   obtain ⟨rfl, rfl⟩ := H
   go_enter Try.func32, Try.ntmps32
   go_wp2_with (first | ((with_reducible refine gate_dst (N := 13) rfl ?_); refine Kd.N_lit (Kd.slice 2 (Kd.int .i64)) _ 38 ?hg (N' := 13) ?hd (xs := ([l0] : List (List Int))) (inner := [.slice A0 l0.length c0]) (ok := (fun k_ => (P0_ k_ ∨ w.heap.size ≤ k_))) (okp := (fun k_ => (P0_ k_ ∨ w.heap.size ≤ k_))) ?hr ?hp (fun _ hk => hk) ((show ∀ k_, w.heap.size ≤ k_ → (fun k_ => (P0_ k_ ∨ w.heap.size ≤ k_)) k_ from fun k_ hk => (.inr (yl (yK (by repeat (first | (with_reducible first | exact HB.out | apply zJ | apply zD | apply zE) | exact HB.out))) hk))) _ (yN _)) (Below.refl _ _) (yN _) (by simp) ?_; (case hd => rfl); (case hg => rfl); (case hr => first | (go_simp; done) | (go_simp; rfl)); (case hp => exact (Reps.one (show Kd.FK (Kd.slice 2 (Kd.int .i64)) _ _ l0 [.slice A0 l0.length c0] from (Kd.FK_slice_mk (Kd.V_reads' (Kd.V_mono (ok' := (fun k_ => (P0_ k_ ∨ w.heap.size ≤ k_))) (HO0.out) (fun k_ hk => hk))).2.1 (Kd.V_F (Kd.V_mono (ok' := (fun k_ => (P0_ k_ ∨ w.heap.size ≤ k_))) (HO0.out) (fun k_ hk => hk))))) (Reps.none _ _))); intro v132 w22 ho23 hb hg_ hnew_; clear hg_ hnew_; (first | rw [← Ny131.out] at ho23 | (simp only [Int.reduceToNat] at ho23; rw [← Ny131.out] at ho23)); have n0_ := zK (Kd.V_elder' (by (with_reducible repeat (first | apply Kd.V_alloc | apply Kd.V_drewN | apply Kd.V_drew)); exact HO0.out) (Kd.N_base ho23) hb); have n1_ := zK (Kd.N_lower ho23 (yK (by repeat (first | (with_reducible first | exact HB.out | apply zJ | apply zD | apply zE) | exact HB.out)))); have n2_ := zK (yL (by repeat (first | (with_reducible first | exact HB.out | apply zJ | apply zD | apply zE) | exact HB.out)) hb); clear HO0 HB; have HO0 := n0_; have HO133 := n1_; have HB := n2_; clear n0_ n1_ n2_ hb ho23; obtain ⟨Ao24, co24, eo24⟩ := Kd.N_slice HO133.out; subst eo24) | ((with_reducible refine gate_callee (f := 54) rfl ?_); refine goesL_ (some 14) rfl rfl Try.func54 (by kernel_rfl) rfl #[.slice Ao24 y131.length co24] rfl (by (try simp only [yH, yI, yJ]); first | done | rfl | (simp only [yG, yF]; rfl)) ?_; (with_reducible refine (vec_fit_int64.calls k _ _ y131 t134 _ ?side1 ?side2 A3.out).mono ?_); (case side1 => repeat (first | exact (Kd.N_reads' HO133.out).2.2 | (with_reducible refine yS ?_ _) | (with_reducible refine yT ?_ _) | (with_reducible refine yU ?_))); (case side2 => exact (Kd.N_reads' HO133.out).2.1); rintro e w' ⟨rfl, ⟨nd, rfl⟩⟩; refine ⟨_, rfl, ?_⟩) | ((with_reducible refine gate_callee (f := 46) rfl ?_); refine goesL_ (some 20) rfl rfl Try.func46 (by kernel_rfl) rfl #[.int .i64 0, .int .i64 a1] rfl (by (try simp only [yH, yI, yJ]); first | done | rfl | (simp only [yG, yF]; rfl)) ?_; (with_reducible refine (fixed_Round.calls 0 a1 t135 t136 _ A5.out).mono ?_); rintro e w' ⟨rfl, ⟨nd, rfl⟩⟩; refine ⟨_, rfl, ?_⟩))
   go_ret2
   exact ⟨_, by first | rfl | (simp [errW_none, errW_some] <;> rfl) | (simp [*, errW_none, errW_some] <;> rfl), by first | exact Kd.R_nil _ _ _ _ _ | exact Kd.N_nil _ _ _ _ _ | exact Kd.V_nil _ _ _ _ _ | exact Kd.Q_nil _ _ _ _ _ | exact Kd.S_nil _ _ _ _ _, by repeat (first | (with_reducible first | exact HB.out | apply zJ | apply zD | apply zE) | exact HB.out)⟩
 ·rw [if_neg c4] at H
  have c4b0 : (t134 == 0) = false := beq_eq_false_iff_ne.mpr c4
  have c4b1 : (t134 != 0) = true := bne_iff_ne.mpr c4
  simp only [yZ, ya] at H
  obtain ⟨rfl, rfl⟩ := H
  go_enter Try.func32, Try.ntmps32
  go_wp2_with (first | ((with_reducible refine gate_dst (N := 13) rfl ?_); refine Kd.N_lit (Kd.slice 2 (Kd.int .i64)) _ 38 ?hg (N' := 13) ?hd (xs := ([l0] : List (List Int))) (inner := [.slice A0 l0.length c0]) (ok := (fun k_ => (P0_ k_ ∨ w.heap.size ≤ k_))) (okp := (fun k_ => (P0_ k_ ∨ w.heap.size ≤ k_))) ?hr ?hp (fun _ hk => hk) ((show ∀ k_, w.heap.size ≤ k_ → (fun k_ => (P0_ k_ ∨ w.heap.size ≤ k_)) k_ from fun k_ hk => (.inr (yl (yK (by repeat (first | (with_reducible first | exact HB.out | apply zJ | apply zD | apply zE) | exact HB.out))) hk))) _ (yN _)) (Below.refl _ _) (yN _) (by simp) ?_; (case hd => rfl); (case hg => rfl); (case hr => first | (go_simp; done) | (go_simp; rfl)); (case hp => exact (Reps.one (show Kd.FK (Kd.slice 2 (Kd.int .i64)) _ _ l0 [.slice A0 l0.length c0] from (Kd.FK_slice_mk (Kd.V_reads' (Kd.V_mono (ok' := (fun k_ => (P0_ k_ ∨ w.heap.size ≤ k_))) (HO0.out) (fun k_ hk => hk))).2.1 (Kd.V_F (Kd.V_mono (ok' := (fun k_ => (P0_ k_ ∨ w.heap.size ≤ k_))) (HO0.out) (fun k_ hk => hk))))) (Reps.none _ _))); intro v132 w25 ho26 hb hg_ hnew_; clear hg_ hnew_; (first | rw [← Ny131.out] at ho26 | (simp only [Int.reduceToNat] at ho26; rw [← Ny131.out] at ho26)); have n0_ := zK (Kd.V_elder' (by (with_reducible repeat (first | apply Kd.V_alloc | apply Kd.V_drewN | apply Kd.V_drew)); exact HO0.out) (Kd.N_base ho26) hb); have n1_ := zK (Kd.N_lower ho26 (yK (by repeat (first | (with_reducible first | exact HB.out | apply zJ | apply zD | apply zE) | exact HB.out)))); have n2_ := zK (yL (by repeat (first | (with_reducible first | exact HB.out | apply zJ | apply zD | apply zE) | exact HB.out)) hb); clear HO0 HB; have HO0 := n0_; have HO133 := n1_; have HB := n2_; clear n0_ n1_ n2_ hb ho26; obtain ⟨Ao27, co27, eo27⟩ := Kd.N_slice HO133.out; subst eo27) | ((with_reducible refine gate_callee (f := 54) rfl ?_); refine goesL_ (some 14) rfl rfl Try.func54 (by kernel_rfl) rfl #[.slice Ao27 y131.length co27] rfl (by (try simp only [yH, yI, yJ]); first | done | rfl | (simp only [yG, yF]; rfl)) ?_; (with_reducible refine (vec_fit_int64.calls k _ _ y131 t134 _ ?side1 ?side2 A3.out).mono ?_); (case side1 => repeat (first | exact (Kd.N_reads' HO133.out).2.2 | (with_reducible refine yS ?_ _) | (with_reducible refine yT ?_ _) | (with_reducible refine yU ?_))); (case side2 => exact (Kd.N_reads' HO133.out).2.1); rintro e w' ⟨rfl, ⟨nd, rfl⟩⟩; refine ⟨_, rfl, ?_⟩))
  go_ret2
  exact ⟨_, by first | rfl | (simp [errW_none, errW_some] <;> rfl) | (simp [*, errW_none, errW_some] <;> rfl), by first | exact Kd.R_nil _ _ _ _ _ | exact Kd.N_nil _ _ _ _ _ | exact Kd.V_nil _ _ _ _ _ | exact Kd.Q_nil _ _ _ _ _ | exact Kd.S_nil _ _ _ _ _, by repeat (first | (with_reducible first | exact HB.out | apply zJ | apply zD | apply zE) | exact HB.out)⟩

/-! ### vec_Shrink: function 50 -/
def vec_Shrink.l0 : Nat → List Int → List Int → Int → Int → Option (List Int × Int)
 | 0, _, _, _, _ => none
 | k + 1, x8, x23, x24, x25 => if x25 < x24 then (if 0 ≤ x25 then (if x25 < (x23.length : Int) then ((fixed_Narrow.f (rd x23 x25)).bind fun t152 => (if x25 < (x8.length : Int) then (vec_Shrink.l0 k (x8.set (x25 : Int).toNat t152) x23 x24 (wrap64 (x25 + 1))) else (none))) else (none)) else (none)) else (some (x8, 0))
def vec_Shrink.f (k : Nat) (l0 : List Int) (a1 : Int) : Option (List Int × Int) := (vec_Scale.f k l0 a1).bind fun bt144 => (if bt144.2 = 0 then (if 0 ≤ (bt144.1.length : Int) then (if ((bt144.1.length : Int) : Int).toNat ≤ 281474976710656 then (vec_Shrink.l0 k (List.replicate ((bt144.1.length : Int) : Int).toNat 0) bt144.1 (bt144.1.length : Int) 0) else (none)) else (none)) else (some (([] : List Int), bt144.2)))
theorem vec_Shrink.mono_l : ∀ k, (∀ y0 y1 y2 y3, LeO (vec_Shrink.l0 k y0 y1 y2 y3) (vec_Shrink.l0 (k + 1) y0 y1 y2 y3))
 | 0 => fun _ _ _ _ r h => by simp [vec_Shrink.l0] at h
 | k + 1 => by
  have ih0 := vec_Shrink.mono_l k
  intros
  unfold vec_Shrink.l0
  all_goals repeat' first
   | (with_reducible exact ih0 _ _ _ _)
   | (with_reducible exact vec_Scale.mono _ _ _)
   | (with_reducible exact yR _)
   | (with_reducible exact yO _)
   | (with_reducible refine yQ ?_ ?_)
   | (with_reducible refine yP ?_ (fun _ => ?_))
   | exact ih0 _ _ _ _
   | exact vec_Scale.mono _ _ _
   | exact yO _
   | refine yQ ?_ ?_
   | refine yP ?_ (fun _ => ?_)
theorem vec_Shrink.mono : ∀ a0 a1 k, LeO (vec_Shrink.f k a0 a1) (vec_Shrink.f (k + 1) a0 a1) := by
 intro a0 a1 k
 have ih0 := vec_Shrink.mono_l k
 unfold vec_Shrink.f
 repeat' first
   | (with_reducible exact ih0 _ _ _ _)
   | (with_reducible exact vec_Scale.mono _ _ _)
   | (with_reducible exact yR _)
   | (with_reducible exact yO _)
   | (with_reducible refine yQ ?_ ?_)
   | (with_reducible refine yP ?_ (fun _ => ?_))
   | exact ih0 _ _ _ _
   | exact vec_Scale.mono _ _ _
   | exact yO _
   | refine yQ ?_ ?_
   | refine yP ?_ (fun _ => ?_)
set_option maxHeartbeats 8000000 in
set_option maxRecDepth 100000 in
theorem vec_Shrink.calls (k : Nat) (A0 : Option Addr) (c0 : Nat) (l0 : List Int) (a1 : Int) (r1 : List Int) (r2 : Int) (w : World) (hr0 : Kd.C (Kd.int .i64) w A0 l0.length l0) (hc0 : l0.length ≤ c0) (h : vec_Shrink.f k l0 a1 = some (r1, r2)) :
  Calls Try.prog 50 #[.slice A0 l0.length c0, .int .i64 a1] w fun e w' => ∃ v0_ : Value, e = .returned (.tuple #[v0_, .int .i64 r2]) ∧ Kd.R (Kd.int .i8) 30 w' w.heap.size (fun _ => True) v0_ r1 ∧ Below w.heap.size w w' := by
 have HR0 := zK hr0
 have HC0 := zK hc0
 clear hr0 hc0
 have HB := zK (Below.refl w.heap.size w)
 have H : ((vec_Scale.f k l0 a1).bind fun bt144 => (if bt144.2 = 0 then (if 0 ≤ (bt144.1.length : Int) then (if ((bt144.1.length : Int) : Int).toNat ≤ 281474976710656 then (vec_Shrink.l0 k (List.replicate ((bt144.1.length : Int) : Int).toNat 0) bt144.1 (bt144.1.length : Int) 0) else (none)) else (none)) else (some (([] : List Int), bt144.2)))) = some (r1, r2) := h
 clear h
 replace H := yA.mp H
 obtain ⟨⟨t144, t147⟩, A30, H⟩ := H
 replace H : (if t147 = 0 then (if 0 ≤ (t144.length : Int) then (if ((t144.length : Int) : Int).toNat ≤ 281474976710656 then (vec_Shrink.l0 k (List.replicate ((t144.length : Int) : Int).toNat 0) t144 (t144.length : Int) 0) else (none)) else (none)) else (some (([] : List Int), t147))) = some (r1, r2) := H
 have A3 := zK A30
 clear A30
 by_cases c4 : t147 = 0
 ·rw [if_pos c4] at H
  have c4b0 : (t147 == 0) = true := beq_iff_eq.mpr c4
  have c4b1 : (t147 != 0) = false := bne_eq_false_iff_eq.mpr c4
  clear c4
  by_cases c5 : 0 ≤ (t144.length : Int)
  ·rw [if_pos c5] at H
   have c5b0 := yg c5
   have c5b1 : decide (0 ≤ (t144.length : Int)) = true := yC c5
   clear c5
   by_cases c6 : ((t144.length : Int) : Int).toNat ≤ 281474976710656
   ·rw [if_pos c6] at H
    have c6b0 := yg c6
    have c6b1 : decide (((t144.length : Int) : Int).toNat ≤ 281474976710656) = true := yC c6
    clear c6
    obtain ⟨y148, hy148⟩ : ∃ y_ : List Int, y_ = (List.replicate ((t144.length : Int) : Int).toNat 0) := ⟨_, rfl⟩
    replace H : (vec_Shrink.l0 k y148 t144 (t144.length : Int) 0) = some (r1, r2) := by first | (rw [hy148]; with_reducible exact H) | (have H2_ := (yV _ _).symm.trans H; rw [hy148]; with_reducible exact H2_) | (have H2_ := (yV _ _).symm.trans H; with_reducible exact H2_) | with_reducible exact H | (rw [hy148]; exact H) | exact H
    have Ny148 := zK hy148
    clear hy148
    have H' := zK H
    clear H
    go_enter Try.func50, Try.ntmps50
    go_wp2_with (first | ((with_reducible refine gate_callee (f := 32) rfl ?_); refine goesL_ (some 14) rfl rfl Try.func32 (by kernel_rfl) rfl #[.slice A0 l0.length c0, .int .i64 a1] rfl (by (try simp only [yH, yI, yJ]); first | done | rfl | (simp only [yG, yF]; rfl)) ?_; (with_reducible refine (vec_Scale.calls k (fun k_ => k_ < w.heap.size) _ _ l0 a1 t144 t147 _ ?side1 A3.out).mono ?_); (case side1 => exact Kd.V_mk HC0.out (Kd.F_below (Kd.C_F (Kd.heap_int .i64) HR0.out) (by repeat (first | (with_reducible first | exact HB.out | apply zJ | apply zD | apply zE) | exact HB.out)))); rintro e w7 ⟨v145, rfl, ho0, hb⟩; refine ⟨_, rfl, ?_⟩; have n0_ := zK (Kd.R_lower (yd (ok' := fun k_ => True) ho0 (fun _ hk_ => trivial)) (yK (by repeat (first | (with_reducible first | exact HB.out | apply zJ | apply zD | apply zE) | exact HB.out)))); have n1_ := zK (yL (by repeat (first | (with_reducible first | exact HB.out | apply zJ | apply zD | apply zE) | exact HB.out)) hb); clear HB; have HO146 := n0_; have HB := n1_; clear n0_ n1_; (try clear hb); (try clear hb2); (try clear hk); (try clear hi); (try clear ho0); obtain ⟨Ao8, co8, eo8⟩ := Kd.R_slice HO146.out; subst eo8) | ((with_reducible refine gate_dst (N := 22) rfl ?_); refine Kd.R_make (Kd.int .i8) _ 30 rfl (N := 22) rfl 23 _ _ rfl (t144.length : Int) rfl rfl Try.underlying23 (.int .i8 0) 1 info30 rfl (by decide) (by omega) 0 (ok := fun _ => True) (okp := fun _ => True) rfl (fun _ hk => hk) trivial (yB (by first | (with_reducible assumption) | assumption)) (yl (Nat.mul_le_mul_right _ (yB (by first | (with_reducible assumption) | assumption) : (t144.length : Int).toNat ≤ 281474976710656)) (by omega)) (Below.refl _ _) (yN _) ?_; intro v149 w9 ho10 hb hg_ hnew_; clear hg_ hnew_; (first | rw [← Ny148.out] at ho10 | (simp only [Int.reduceToNat] at ho10; rw [← Ny148.out] at ho10)); have n0_ := zK (yb (by (with_reducible repeat (first | apply zL | apply zM | apply zN)); exact HO146.out) hb); have n1_ := zK (Kd.R_lower ho10 (yK (by repeat (first | (with_reducible first | exact HB.out | apply zJ | apply zD | apply zE) | exact HB.out)))); have n2_ := zK (yL (by repeat (first | (with_reducible first | exact HB.out | apply zJ | apply zD | apply zE) | exact HB.out)) hb); clear HO146 HB; have HO146 := n0_; have HO150 := n1_; have HB := n2_; clear n0_ n1_ n2_ hb ho10))
    go_loopg [25] k (fun kq v25 w' => ∃ (x8_1 : List Int) (x25_1 : Int), v25 = .int .i64 x25_1 ∧ Aside0 (vec_Shrink.l0 kq x8_1 t144 (t144.length : Int) x25_1 = some (r1, r2)) ∧ Aside0 (kq ≤ k) ∧ Aside0 (Kd.R (Kd.int .i8) 30 w' w.heap.size (fun _ => True) v149 x8_1) ∧ Aside0 (Kd.R (Kd.int .i64) 2 w' w.heap.size (fun _ => True) (.slice Ao8 t144.length co8) t144) ∧ Aside0 (Below w.heap.size w w'))
    case atStart => exact ⟨(y148), (0), (by first | rfl | (simp; done) | (simp [*]; done)), H', ⟨yN _⟩, ⟨by (with_reducible repeat (first | apply zL | apply zM | apply zN)); exact HO150.out⟩, ⟨by (with_reducible repeat (first | apply zL | apply zM | apply zN)); exact HO146.out⟩, ⟨by repeat (first | (with_reducible first | exact HB.out | apply zJ | apply zD | apply zE) | exact HB.out)⟩⟩
    case round =>
     clear H'
     try clear p2
     try clear c3
     try clear c4
     try clear c4b0
     try clear c4b1
     try clear c5
     try clear c5b0
     try clear c5b1
     try clear c6
     try clear c6b0
     try clear c6b1
     obtain ⟨x8_1, x25_1, rfl, HA, HK1, HO_8, HO_23, HB⟩ := hrel
     cases gk with
     | zero => exact absurd HA.out (by simp [vec_Shrink.l0])
     | succ k1 =>
      have H := HA.out
      clear HA
      simp only [vec_Shrink.l0] at H
      by_cases c11 : x25_1 < (t144.length : Int)
      ·rw [if_pos c11] at H
       have c11b0 : decide (x25_1 < (t144.length : Int)) = true := yC c11
       clear c11
       by_cases c12 : 0 ≤ x25_1
       ·rw [if_pos c12] at H
        have c12b0 : decide (0 ≤ x25_1) = true := yC c12
        clear c12
        by_cases c13 : x25_1 < (t144.length : Int)
        ·rw [if_pos c13] at H
         have c13b0 : decide (x25_1 < (t144.length : Int)) = true := yC c13
         clear c13
         replace H := yA.mp H
         obtain ⟨t152, A140, H⟩ := H
         replace H : (if x25_1 < (x8_1.length : Int) then (vec_Shrink.l0 k1 (x8_1.set (x25_1 : Int).toNat t152) t144 (t144.length : Int) (wrap64 (x25_1 + 1))) else (none)) = some (r1, r2) := H
         have A14 := zK A140
         clear A140
         by_cases c15 : x25_1 < (x8_1.length : Int)
         ·rw [if_pos c15] at H
          have c15b0 : decide (x25_1 < (x8_1.length : Int)) = true := yC c15
          clear c15
          obtain ⟨y153, hy153⟩ : ∃ y_ : List Int, y_ = (x8_1.set (x25_1 : Int).toNat t152) := ⟨_, rfl⟩
          replace H : (vec_Shrink.l0 k1 y153 t144 (t144.length : Int) (wrap64 (x25_1 + 1))) = some (r1, r2) := by first | (rw [hy153]; with_reducible exact H) | (have H2_ := (yV _ _).symm.trans H; rw [hy153]; with_reducible exact H2_) | (have H2_ := (yV _ _).symm.trans H; with_reducible exact H2_) | with_reducible exact H | (rw [hy153]; exact H) | exact H
          have Ny153 := zK hy153
          clear hy153
          have H' := zK H
          clear H
          have p151 : 0 ≤ (x25_1 : Int) := yB (by first | (with_reducible assumption) | assumption)
          have q151 : x25_1 < (t144.length : Int) := yB (by first | (with_reducible assumption) | assumption)
          (try (obtain ⟨Ai151, ci151, ei151⟩ := Kd.R_slice HO_23.out; subst ei151))
          obtain ⟨ad151, e151, hx151_0⟩ := Kd.at_int (yM HO_23.out).2.2 x25_1 p151 q151
          cases e151
          replace p151 := yg p151
          replace q151 := yg q151
          go_wp2_with (first | ((with_reducible refine gate_callee (f := 47) rfl ?_); refine goesL_ (some 33) rfl rfl Try.func47 (by kernel_rfl) rfl #[.int .i64 (rd t144 x25_1)] rfl (by (try simp only [yH, yI, yJ]); first | done | rfl | (simp only [yG, yF]; rfl)) ?_; (with_reducible refine (fixed_Narrow.calls (rd t144 x25_1) t152 _ A14.out).mono ?_); rintro e w' ⟨rfl, ⟨nd, rfl⟩⟩; refine ⟨_, rfl, ?_⟩; (try (rw [drewN_self wr]; generalize hq_ : World.drewN wr _ = wr; have n0_ : Aside0 (Kd.R (Kd.int .i64) 2 wr w.heap.size (fun _ => True) (.slice (some ad151) t144.length co8) t144) := ⟨by rw [← hq_]; exact (by (with_reducible repeat (first | apply zL | apply zM | apply zN)); exact HO_23.out)⟩; have n1_ : Aside0 (Kd.R (Kd.int .i8) 30 wr w.heap.size (fun _ => True) v149 x8_1) := ⟨by rw [← hq_]; exact (by (with_reducible repeat (first | apply zL | apply zM | apply zN)); exact HO_8.out)⟩; have n2_ : Aside0 (Below w.heap.size w wr) := ⟨by rw [← hq_]; exact (by repeat (first | (with_reducible first | exact HB.out | apply zJ | apply zD | apply zE) | exact HB.out))⟩; clear HO_23 HO_8 HB hq_; have HO_23 := n0_; have HO_8 := n1_; have HB := n2_; clear n0_ n1_ n2_)); have p16 : 0 ≤ (x25_1 : Int) := yB (by first | (with_reducible assumption) | assumption); have q16 : (x25_1 : Int) < ((x8_1.length : Int) : Int) := yB (by first | (with_reducible assumption) | assumption); obtain ⟨go16, co16, eo16, Z3, gl16, cl16, HG16⟩ := Kd.R_form HO_8.out (by omega); (first | cases eo16 | (injection eo16 with ea_ en_ ec_; (first | subst ea_ | (injection ea_ with ea_; subst ea_)); subst ec_; clear en_)); have GB16 := zK Z3; have GG16 := zK HG16; clear Z3 gl16 HG16; obtain ⟨hx16_0, hf16_0⟩ := Kd.R_celln 0 HO_8.out (x25_1 : Int) p16 q16; replace p16 := yg p16; replace q16 := yg q16; obtain ⟨hy17_, hz17_⟩ := Kd.R_celln 0 HO_8.out (x25_1 : Int) (yB (by first | (with_reducible assumption) | assumption)) (yB (by first | (with_reducible assumption) | assumption)); have HP17 := Kd.R_putg HO_8.out (x25_1 : Int) t152) | ((with_reducible refine gate_store (t := 30) (p := 34) rfl ?_); refine store_event (t := 30) (p := 34) (v := ?vo_w18) (w1 := (wr.setCell ⟨go16, (x25_1 : Int).toNat, none⟩ (.int .i8 t152))) ?hg ?ho ?hn ?hr ?_; (case ho => rfl); (case hg => rfl); (case hn => rfl); (case hr => first | (go_simp; done) | (go_simp; rfl)); intro w18 hw; have hg : wr.grownBy w18 (some go16) := (by rw [hw]; exact HP17.2); have hp_ : Kd.R (Kd.int .i8) 30 w18 w.heap.size (fun _ => True) (.slice (some ⟨go16, 0, none⟩) x8_1.length co16) y153 := (by rw [hw, Ny153.out]; exact HP17.1); clear HP17; have n0_ := zK (hp_); have n1_ := zK (Kd.R_over' (v := (.slice (some ⟨go16, 0, none⟩) x8_1.length co16)) (by (with_reducible repeat (first | apply zL | apply zM | apply zN)); exact HO_23.out) (Kd.R_typed HO_8.out) (by decide) hg); have n2_ := zK ((by rw [hw]; exact zI (HB.out) GB16.out : Below w.heap.size w w18)); clear HO_8 HO_23 HB; have HO_8 := n0_; have HO_23 := n1_; have HB := n2_; clear n0_ n1_ n2_ hg hw hp_))
          go_roundg k1
          case measure => have := HK1.out; omega
          case rel => exact ⟨(y153), (wrap64 (x25_1 + 1)), (by first | rfl | (simp; done) | (simp [*]; done)), H', ⟨by have := HK1.out; omega⟩, ⟨by (with_reducible repeat (first | apply zL | apply zM | apply zN)); exact HO_8.out⟩, ⟨by (with_reducible repeat (first | apply zL | apply zM | apply zN)); exact HO_23.out⟩, ⟨by repeat (first | (with_reducible first | exact HB.out | apply zJ | apply zD | apply zE) | exact HB.out)⟩⟩
         ·rw [if_neg c15] at H
          exact absurd H (by simp)
        ·rw [if_neg c13] at H
         exact absurd H (by simp)
       ·rw [if_neg c12] at H
        exact absurd H (by simp)
      ·rw [if_neg c11] at H
       have c11b0 : decide (x25_1 < (t144.length : Int)) = false := yD c11
       clear c11
       simp only [yZ, ya] at H
       obtain ⟨rfl, rfl⟩ := H
       go_wp2
       go_ret2
       exact ⟨_, by first | rfl | (simp [errW_none, errW_some] <;> rfl) | (simp [*, errW_none, errW_some] <;> rfl), by (with_reducible repeat (first | apply zL | apply zM | apply zN)); exact HO_8.out, by repeat (first | (with_reducible first | exact HB.out | apply zJ | apply zD | apply zE) | exact HB.out)⟩
   ·rw [if_neg c6] at H
    exact absurd H (by simp)
  ·rw [if_neg c5] at H
   exact absurd H (by simp)
 ·rw [if_neg c4] at H
  have c4b0 : (t147 == 0) = false := beq_eq_false_iff_ne.mpr c4
  have c4b1 : (t147 != 0) = true := bne_iff_ne.mpr c4
  simp only [yZ, ya] at H
  obtain ⟨rfl, rfl⟩ := H
  go_enter Try.func50, Try.ntmps50
  go_wp2_with (first | ((with_reducible refine gate_callee (f := 32) rfl ?_); refine goesL_ (some 14) rfl rfl Try.func32 (by kernel_rfl) rfl #[.slice A0 l0.length c0, .int .i64 a1] rfl (by (try simp only [yH, yI, yJ]); first | done | rfl | (simp only [yG, yF]; rfl)) ?_; (with_reducible refine (vec_Scale.calls k (fun k_ => k_ < w.heap.size) _ _ l0 a1 t144 t147 _ ?side1 A3.out).mono ?_); (case side1 => exact Kd.V_mk HC0.out (Kd.F_below (Kd.C_F (Kd.heap_int .i64) HR0.out) (by repeat (first | (with_reducible first | exact HB.out | apply zJ | apply zD | apply zE) | exact HB.out)))); rintro e w19 ⟨v145, rfl, ho0, hb⟩; refine ⟨_, rfl, ?_⟩; have n0_ := zK (Kd.R_lower (yd (ok' := fun k_ => True) ho0 (fun _ hk_ => trivial)) (yK (by repeat (first | (with_reducible first | exact HB.out | apply zJ | apply zD | apply zE) | exact HB.out)))); have n1_ := zK (yL (by repeat (first | (with_reducible first | exact HB.out | apply zJ | apply zD | apply zE) | exact HB.out)) hb); clear HB; have HO146 := n0_; have HB := n1_; clear n0_ n1_; (try clear hb); (try clear hb2); (try clear hk); (try clear hi); (try clear ho0)))
  go_ret2
  exact ⟨_, by first | rfl | (simp [errW_none, errW_some] <;> rfl) | (simp [*, errW_none, errW_some] <;> rfl), by first | exact Kd.R_nil _ _ _ _ _ | exact Kd.N_nil _ _ _ _ _ | exact Kd.V_nil _ _ _ _ _ | exact Kd.Q_nil _ _ _ _ _ | exact Kd.S_nil _ _ _ _ _, by repeat (first | (with_reducible first | exact HB.out | apply zJ | apply zD | apply zE) | exact HB.out)⟩

/-! ### act_through: function 30 -/
def act_through.f (k : Nat) (l0 : List Int) (l1 : List Int) (a2 : Int) : Option (List Int × Int) := (vec_Times.f l0 (l1.length : Int) l1).bind fun bt154 => (if bt154.2 = 0 then ((vec_Shrink.f k bt154.1 a2).bind fun bt158 => (some (bt158.1, bt158.2))) else (some (([] : List Int), bt154.2)))
theorem act_through.mono : ∀ a0 a1 a2 k, LeO (act_through.f k a0 a1 a2) (act_through.f (k + 1) a0 a1 a2) := by
 intro a0 a1 a2 k
 unfold act_through.f
 repeat' first
   | (with_reducible exact vec_Shrink.mono _ _ _)
   | (with_reducible exact yR _)
   | (with_reducible exact yO _)
   | (with_reducible refine yQ ?_ ?_)
   | (with_reducible refine yP ?_ (fun _ => ?_))
   | exact vec_Shrink.mono _ _ _
   | exact yO _
   | refine yQ ?_ ?_
   | refine yP ?_ (fun _ => ?_)
set_option maxHeartbeats 8000000 in
set_option maxRecDepth 100000 in
theorem act_through.calls (k : Nat) (A0 : Option Addr) (c0 : Nat) (l0 : List Int) (A1 : Option Addr) (c1 : Nat) (l1 : List Int) (a2 : Int) (r1 : List Int) (r2 : Int) (w : World) (hr0 : Kd.C (Kd.int .i8) w A0 l0.length l0) (hc0 : l0.length ≤ c0) (hr1 : Kd.C (Kd.int .i8) w A1 l1.length l1) (hc1 : l1.length ≤ c1) (h : act_through.f k l0 l1 a2 = some (r1, r2)) :
  Calls Try.prog 30 #[.slice A0 l0.length c0, .slice A1 l1.length c1, .int .i64 a2] w fun e w' => ∃ v0_ : Value, e = .returned (.tuple #[v0_, .int .i64 r2]) ∧ Kd.R (Kd.int .i8) 30 w' w.heap.size (fun _ => True) v0_ r1 ∧ Below w.heap.size w w' := by
 have HR0 := zK hr0
 have HC0 := zK hc0
 clear hr0 hc0
 have HR1 := zK hr1
 have HC1 := zK hc1
 clear hr1 hc1
 have HB := zK (Below.refl w.heap.size w)
 have H : ((vec_Times.f l0 (l1.length : Int) l1).bind fun bt154 => (if bt154.2 = 0 then ((vec_Shrink.f k bt154.1 a2).bind fun bt158 => (some (bt158.1, bt158.2))) else (some (([] : List Int), bt154.2)))) = some (r1, r2) := h
 clear h
 replace H := yA.mp H
 obtain ⟨⟨t154, t155⟩, A40, H⟩ := H
 replace H : (if t155 = 0 then ((vec_Shrink.f k t154 a2).bind fun bt158 => (some (bt158.1, bt158.2))) else (some (([] : List Int), t155))) = some (r1, r2) := H
 have A4 := zK A40
 clear A40
 by_cases c5 : t155 = 0
 ·rw [if_pos c5] at H
  have c5b0 : (t155 == 0) = true := beq_iff_eq.mpr c5
  have c5b1 : (t155 != 0) = false := bne_eq_false_iff_eq.mpr c5
  clear c5
  replace H := yA.mp H
  obtain ⟨⟨t158, t159⟩, A60, H⟩ := H
  replace H : (some (t158, t159)) = some (r1, r2) := H
  have A6 := zK A60
  clear A60
  simp only [yZ, ya] at H
  obtain ⟨rfl, rfl⟩ := H
  go_enter Try.func30, Try.ntmps30
  go_wp2_with (first | ((with_reducible refine gate_callee (f := 31) rfl ?_); refine goesL_ (some 15) rfl rfl Try.func31 (by kernel_rfl) rfl #[.slice A0 l0.length c0, .int .i64 (l1.length : Int), .slice A1 l1.length c1] rfl (by (try simp only [yH, yI, yJ]); first | done | rfl | (simp only [yG, yF]; rfl)) ?_; (with_reducible refine (vec_Times.calls _ _ l0 (l1.length : Int) _ _ l1 t154 t155 _ ?side1 ?side2 ?side3 ?side4 A4.out).mono ?_); (case side1 => repeat (first | exact HR0.out | (with_reducible refine yS ?_ _) | (with_reducible refine yT ?_ _) | (with_reducible refine yU ?_))); (case side2 => exact HC0.out); (case side3 => repeat (first | exact HR1.out | (with_reducible refine yS ?_ _) | (with_reducible refine yT ?_ _) | (with_reducible refine yU ?_))); (case side4 => exact HC1.out); rintro e w7 ⟨v156, rfl, ho0, hb⟩; refine ⟨_, rfl, ?_⟩; have n0_ := zK (Kd.R_lower ho0 (yK (by repeat (first | (with_reducible first | exact HB.out | apply zJ | apply zD | apply zE) | exact HB.out)))); have n1_ := zK (yL (by repeat (first | (with_reducible first | exact HB.out | apply zJ | apply zD | apply zE) | exact HB.out)) hb); clear HB; have HO157 := n0_; have HB := n1_; clear n0_ n1_; (try clear hb); (try clear hb2); (try clear hk); (try clear hi); (try clear ho0); obtain ⟨Ao8, co8, eo8⟩ := Kd.R_slice HO157.out; subst eo8) | ((with_reducible refine gate_callee (f := 50) rfl ?_); refine goesL_ (some 23) rfl rfl Try.func50 (by kernel_rfl) rfl #[.slice Ao8 t154.length co8, .int .i64 a2] rfl (by (try simp only [yH, yI, yJ]); first | done | rfl | (simp only [yG, yF]; rfl)) ?_; (with_reducible refine (vec_Shrink.calls k _ _ t154 a2 t158 t159 _ ?side1 ?side2 A6.out).mono ?_); (case side1 => repeat (first | exact (yM HO157.out).2.2 | (with_reducible refine yS ?_ _) | (with_reducible refine yT ?_ _) | (with_reducible refine yU ?_))); (case side2 => exact (yM HO157.out).2.1); rintro e w9 ⟨v160, rfl, ho0, hb⟩; refine ⟨_, rfl, ?_⟩; have n0_ := zK (yb (by (with_reducible repeat (first | apply zL | apply zM | apply zN)); exact HO157.out) hb); have n1_ := zK (Kd.R_lower ho0 (yK (by repeat (first | (with_reducible first | exact HB.out | apply zJ | apply zD | apply zE) | exact HB.out)))); have n2_ := zK (yL (by repeat (first | (with_reducible first | exact HB.out | apply zJ | apply zD | apply zE) | exact HB.out)) hb); clear HO157 HB; have HO157 := n0_; have HO161 := n1_; have HB := n2_; clear n0_ n1_ n2_; (try clear hb); (try clear hb2); (try clear hk); (try clear hi); (try clear ho0)))
  go_ret2
  exact ⟨_, by first | rfl | (simp [errW_none, errW_some] <;> rfl) | (simp [*, errW_none, errW_some] <;> rfl), by (with_reducible repeat (first | apply zL | apply zM | apply zN)); exact HO161.out, by repeat (first | (with_reducible first | exact HB.out | apply zJ | apply zD | apply zE) | exact HB.out)⟩
 ·rw [if_neg c5] at H
  have c5b0 : (t155 == 0) = false := beq_eq_false_iff_ne.mpr c5
  have c5b1 : (t155 != 0) = true := bne_iff_ne.mpr c5
  simp only [yZ, ya] at H
  obtain ⟨rfl, rfl⟩ := H
  go_enter Try.func30, Try.ntmps30
  go_wp2_with (first | ((with_reducible refine gate_callee (f := 31) rfl ?_); refine goesL_ (some 15) rfl rfl Try.func31 (by kernel_rfl) rfl #[.slice A0 l0.length c0, .int .i64 (l1.length : Int), .slice A1 l1.length c1] rfl (by (try simp only [yH, yI, yJ]); first | done | rfl | (simp only [yG, yF]; rfl)) ?_; (with_reducible refine (vec_Times.calls _ _ l0 (l1.length : Int) _ _ l1 t154 t155 _ ?side1 ?side2 ?side3 ?side4 A4.out).mono ?_); (case side1 => repeat (first | exact HR0.out | (with_reducible refine yS ?_ _) | (with_reducible refine yT ?_ _) | (with_reducible refine yU ?_))); (case side2 => exact HC0.out); (case side3 => repeat (first | exact HR1.out | (with_reducible refine yS ?_ _) | (with_reducible refine yT ?_ _) | (with_reducible refine yU ?_))); (case side4 => exact HC1.out); rintro e w10 ⟨v156, rfl, ho0, hb⟩; refine ⟨_, rfl, ?_⟩; have n0_ := zK (Kd.R_lower ho0 (yK (by repeat (first | (with_reducible first | exact HB.out | apply zJ | apply zD | apply zE) | exact HB.out)))); have n1_ := zK (yL (by repeat (first | (with_reducible first | exact HB.out | apply zJ | apply zD | apply zE) | exact HB.out)) hb); clear HB; have HO157 := n0_; have HB := n1_; clear n0_ n1_; (try clear hb); (try clear hb2); (try clear hk); (try clear hi); (try clear ho0)))
  go_ret2
  exact ⟨_, by first | rfl | (simp [errW_none, errW_some] <;> rfl) | (simp [*, errW_none, errW_some] <;> rfl), by first | exact Kd.R_nil _ _ _ _ _ | exact Kd.N_nil _ _ _ _ _ | exact Kd.V_nil _ _ _ _ _ | exact Kd.Q_nil _ _ _ _ _ | exact Kd.S_nil _ _ _ _ _, by repeat (first | (with_reducible first | exact HB.out | apply zJ | apply zD | apply zE) | exact HB.out)⟩

/-! ### act_Middle: function 17 -/
def act_Middle.f (k : Nat) (l0_0 : List Int) (l0_1 : List Int) (l0_2 : List Int) (a0_3 : Int) (a0_4 : Int) (a0_5 : Int) (l1 : List Int) (l2 : List Int) : Option (List Int × Int) := (act_through.f k l0_0 l2 a0_3).bind fun bt163 => (if bt163.2 = 0 then ((act_through.f k l0_1 l2 a0_4).bind fun bt167 => (if bt167.2 = 0 then ((act_Gate.f k l1 bt163.1 bt167.1).bind fun bt171 => (if bt171.2 = 0 then ((vec_Times.f l0_2 (bt171.1.length : Int) bt171.1).bind fun bt175 => (if bt175.2 = 0 then ((vec_Scale.f k bt175.1 a0_5).bind fun bt179 => (some (bt179.1, bt179.2))) else (some (([] : List Int), bt175.2)))) else (some (([] : List Int), bt171.2)))) else (some (([] : List Int), bt167.2)))) else (some (([] : List Int), bt163.2)))
theorem act_Middle.mono : ∀ a0 a1 a2 a3 a4 a5 a6 a7 k, LeO (act_Middle.f k a0 a1 a2 a3 a4 a5 a6 a7) (act_Middle.f (k + 1) a0 a1 a2 a3 a4 a5 a6 a7) := by
 intro a0 a1 a2 a3 a4 a5 a6 a7 k
 unfold act_Middle.f
 repeat' first
   | (with_reducible exact act_Gate.mono _ _ _ _)
   | (with_reducible exact act_through.mono _ _ _ _)
   | (with_reducible exact vec_Scale.mono _ _ _)
   | (with_reducible exact yR _)
   | (with_reducible exact yO _)
   | (with_reducible refine yQ ?_ ?_)
   | (with_reducible refine yP ?_ (fun _ => ?_))
   | exact act_Gate.mono _ _ _ _
   | exact act_through.mono _ _ _ _
   | exact vec_Scale.mono _ _ _
   | exact yO _
   | refine yQ ?_ ?_
   | refine yP ?_ (fun _ => ?_)
set_option maxHeartbeats 8000000 in
set_option maxRecDepth 100000 in
theorem act_Middle.calls (k : Nat) (A0_0 : Option Addr) (c0_0 : Nat) (l0_0 : List Int) (A0_1 : Option Addr) (c0_1 : Nat) (l0_1 : List Int) (A0_2 : Option Addr) (c0_2 : Nat) (l0_2 : List Int) (a0_3 : Int) (a0_4 : Int) (a0_5 : Int) (A1 : Option Addr) (c1 : Nat) (l1 : List Int) (A2 : Option Addr) (c2 : Nat) (l2 : List Int) (r1 : List Int) (r2 : Int) (w : World) (hr0_0 : Kd.C (Kd.int .i8) w A0_0 l0_0.length l0_0) (hc0_0 : l0_0.length ≤ c0_0) (hr0_1 : Kd.C (Kd.int .i8) w A0_1 l0_1.length l0_1) (hc0_1 : l0_1.length ≤ c0_1) (hr0_2 : Kd.C (Kd.int .i8) w A0_2 l0_2.length l0_2) (hc0_2 : l0_2.length ≤ c0_2) (hr1 : Kd.C (Kd.int .i8) w A1 l1.length l1) (hc1 : l1.length ≤ c1) (hr2 : Kd.C (Kd.int .i8) w A2 l2.length l2) (hc2 : l2.length ≤ c2) (h : act_Middle.f k l0_0 l0_1 l0_2 a0_3 a0_4 a0_5 l1 l2 = some (r1, r2)) :
  Calls Try.prog 17 #[.agg #[.slice A0_0 l0_0.length c0_0, .slice A0_1 l0_1.length c0_1, .slice A0_2 l0_2.length c0_2, .int .i64 a0_3, .int .i64 a0_4, .int .i64 a0_5], .slice A1 l1.length c1, .slice A2 l2.length c2] w fun e w' => ∃ v0_ : Value, e = .returned (.tuple #[v0_, .int .i64 r2]) ∧ Kd.R (Kd.int .i64) 2 w' w.heap.size (fun _ => True) v0_ r1 ∧ Below w.heap.size w w' := by
 have hu36 := Try.underlying36
 have HR0_0 := zK hr0_0
 have HC0_0 := zK hc0_0
 clear hr0_0 hc0_0
 have HR0_1 := zK hr0_1
 have HC0_1 := zK hc0_1
 clear hr0_1 hc0_1
 have HR0_2 := zK hr0_2
 have HC0_2 := zK hc0_2
 clear hr0_2 hc0_2
 have HR1 := zK hr1
 have HC1 := zK hc1
 clear hr1 hc1
 have HR2 := zK hr2
 have HC2 := zK hc2
 clear hr2 hc2
 have HB := zK (Below.refl w.heap.size w)
 have H : ((act_through.f k l0_0 l2 a0_3).bind fun bt163 => (if bt163.2 = 0 then ((act_through.f k l0_1 l2 a0_4).bind fun bt167 => (if bt167.2 = 0 then ((act_Gate.f k l1 bt163.1 bt167.1).bind fun bt171 => (if bt171.2 = 0 then ((vec_Times.f l0_2 (bt171.1.length : Int) bt171.1).bind fun bt175 => (if bt175.2 = 0 then ((vec_Scale.f k bt175.1 a0_5).bind fun bt179 => (some (bt179.1, bt179.2))) else (some (([] : List Int), bt175.2)))) else (some (([] : List Int), bt171.2)))) else (some (([] : List Int), bt167.2)))) else (some (([] : List Int), bt163.2)))) = some (r1, r2) := h
 clear h
 replace H := yA.mp H
 obtain ⟨⟨t163, t164⟩, A40, H⟩ := H
 replace H : (if t164 = 0 then ((act_through.f k l0_1 l2 a0_4).bind fun bt167 => (if bt167.2 = 0 then ((act_Gate.f k l1 t163 bt167.1).bind fun bt171 => (if bt171.2 = 0 then ((vec_Times.f l0_2 (bt171.1.length : Int) bt171.1).bind fun bt175 => (if bt175.2 = 0 then ((vec_Scale.f k bt175.1 a0_5).bind fun bt179 => (some (bt179.1, bt179.2))) else (some (([] : List Int), bt175.2)))) else (some (([] : List Int), bt171.2)))) else (some (([] : List Int), bt167.2)))) else (some (([] : List Int), t164))) = some (r1, r2) := H
 have A4 := zK A40
 clear A40
 by_cases c5 : t164 = 0
 ·rw [if_pos c5] at H
  have c5b0 : (t164 == 0) = true := beq_iff_eq.mpr c5
  have c5b1 : (t164 != 0) = false := bne_eq_false_iff_eq.mpr c5
  clear c5
  replace H := yA.mp H
  obtain ⟨⟨t167, t168⟩, A60, H⟩ := H
  replace H : (if t168 = 0 then ((act_Gate.f k l1 t163 t167).bind fun bt171 => (if bt171.2 = 0 then ((vec_Times.f l0_2 (bt171.1.length : Int) bt171.1).bind fun bt175 => (if bt175.2 = 0 then ((vec_Scale.f k bt175.1 a0_5).bind fun bt179 => (some (bt179.1, bt179.2))) else (some (([] : List Int), bt175.2)))) else (some (([] : List Int), bt171.2)))) else (some (([] : List Int), t168))) = some (r1, r2) := H
  have A6 := zK A60
  clear A60
  by_cases c7 : t168 = 0
  ·rw [if_pos c7] at H
   have c7b0 : (t168 == 0) = true := beq_iff_eq.mpr c7
   have c7b1 : (t168 != 0) = false := bne_eq_false_iff_eq.mpr c7
   clear c7
   replace H := yA.mp H
   obtain ⟨⟨t171, t172⟩, A80, H⟩ := H
   replace H : (if t172 = 0 then ((vec_Times.f l0_2 (t171.length : Int) t171).bind fun bt175 => (if bt175.2 = 0 then ((vec_Scale.f k bt175.1 a0_5).bind fun bt179 => (some (bt179.1, bt179.2))) else (some (([] : List Int), bt175.2)))) else (some (([] : List Int), t172))) = some (r1, r2) := H
   have A8 := zK A80
   clear A80
   by_cases c9 : t172 = 0
   ·rw [if_pos c9] at H
    have c9b0 : (t172 == 0) = true := beq_iff_eq.mpr c9
    have c9b1 : (t172 != 0) = false := bne_eq_false_iff_eq.mpr c9
    clear c9
    replace H := yA.mp H
    obtain ⟨⟨t175, t176⟩, A100, H⟩ := H
    replace H : (if t176 = 0 then ((vec_Scale.f k t175 a0_5).bind fun bt179 => (some (bt179.1, bt179.2))) else (some (([] : List Int), t176))) = some (r1, r2) := H
    have A10 := zK A100
    clear A100
    by_cases c11 : t176 = 0
    ·rw [if_pos c11] at H
     have c11b0 : (t176 == 0) = true := beq_iff_eq.mpr c11
     have c11b1 : (t176 != 0) = false := bne_eq_false_iff_eq.mpr c11
     clear c11
     replace H := yA.mp H
     obtain ⟨⟨t179, t182⟩, A120, H⟩ := H
     replace H : (some (t179, t182)) = some (r1, r2) := H
     have A12 := zK A120
     clear A120
     simp only [yZ, ya] at H
     obtain ⟨rfl, rfl⟩ := H
     go_enter Try.func17, Try.ntmps17
     go_wp2_with (first | ((with_reducible refine gate_dst (N := 3) rfl ?_); refine box_event ?hg (N := 3) ?hd (cs := #[.slice A0_0 l0_0.length c0_0, .slice A0_1 l0_1.length c0_1, .slice A0_2 l0_2.length c0_2, .int .i64 a0_3, .int .i64 a0_4, .int .i64 a0_5]) (t := 36) ?hr ?_; (case hd => rfl); (case hg => rfl); (case hr => first | (go_simp; done) | (go_simp; rfl)); intro Z4 hg w13 hbox hb; have n0_ := zK (yL (by repeat (first | (with_reducible first | exact HB.out | apply zJ | apply zD | apply zE) | exact HB.out)) hb); have n1_ := zK (hbox); have n2_ := zK ((by rw [hg]; exact (yK (by repeat (first | (with_reducible first | exact HB.out | apply zJ | apply zD | apply zE) | exact HB.out))) : w.heap.size ≤ Z4)); have n3_ := zK ((by rw [hg]; exact (yK (by repeat (first | (with_reducible first | exact HB.out | apply zJ | apply zD | apply zE) | exact HB.out))) : w.heap.size ≤ Z4)); clear HB; have HB := n0_; have Z0 := n1_; have Z2 := n2_; have Z1 := n3_; clear n0_ n1_ n2_ n3_ hb hbox hg; have hcz14_0 : w13.cell? ⟨Z4, 0, none⟩ = some (.slice A0_0 l0_0.length c0_0) := (zO Z0.out 0).trans rfl; have hcz14_1 : w13.cell? ⟨Z4, 1, none⟩ = some (.slice A0_1 l0_1.length c0_1) := (zO Z0.out 1).trans rfl; have hcz14_2 : w13.cell? ⟨Z4, 2, none⟩ = some (.slice A0_2 l0_2.length c0_2) := (zO Z0.out 2).trans rfl; have hcz14_3 : w13.cell? ⟨Z4, 3, none⟩ = some (.int .i64 a0_3) := (zO Z0.out 3).trans rfl; have hcz14_4 : w13.cell? ⟨Z4, 4, none⟩ = some (.int .i64 a0_4) := (zO Z0.out 4).trans rfl; have hcz14_5 : w13.cell? ⟨Z4, 5, none⟩ = some (.int .i64 a0_5) := (zO Z0.out 5).trans rfl; have hfz14_0 := yE Z0.out 0; have hfz14_1 := yE Z0.out 1; have hfz14_2 := yE Z0.out 2; have hfz14_3 := yE Z0.out 3; have hfz14_4 := yE Z0.out 4; have hfz14_5 := yE Z0.out 5) | ((with_reducible refine gate_callee (f := 30) rfl ?_); refine goesL_ (some 19) rfl rfl Try.func30 (by kernel_rfl) rfl #[.slice A0_0 l0_0.length c0_0, .slice A2 l2.length c2, .int .i64 a0_3] rfl (by (try simp only [yH, yI, yJ]); first | done | rfl | (simp only [yG, yF]; rfl)) ?_; (with_reducible refine (act_through.calls k _ _ l0_0 _ _ l2 a0_3 t163 t164 _ ?side1 ?side2 ?side3 ?side4 A4.out).mono ?_); (case side1 => repeat (first | exact (yc HR0_0.out HB.out) | (with_reducible refine yS ?_ _) | (with_reducible refine yT ?_ _) | (with_reducible refine yU ?_))); (case side2 => exact HC0_0.out); (case side3 => repeat (first | exact (yc HR2.out HB.out) | (with_reducible refine yS ?_ _) | (with_reducible refine yT ?_ _) | (with_reducible refine yU ?_))); (case side4 => exact HC2.out); rintro e w15 ⟨v165, rfl, ho0, hb⟩; refine ⟨_, rfl, ?_⟩; have n0_ := zK (Kd.R_lower ho0 (yK (by repeat (first | (with_reducible first | exact HB.out | apply zJ | apply zD | apply zE | refine zI ?_ Z1.out) | exact HB.out)))); have n1_ := zK (zP (g := Z4) (o := .cells #[.slice A0_0 l0_0.length c0_0, .slice A0_1 l0_1.length c0_1, .slice A0_2 l0_2.length c0_2, .int .i64 a0_3, .int .i64 a0_4, .int .i64 a0_5] 36 (0, 0)) (by (with_reducible repeat (first | refine zF ?_ _ | refine zH ?_ | refine zG ?_ _)); exact Z0.out) hb); have n2_ := zK (yL (by repeat (first | (with_reducible first | exact HB.out | apply zJ | apply zD | apply zE | refine zI ?_ Z1.out) | exact HB.out)) hb); clear Z0 HB; have HO166 := n0_; have Z0 := n1_; have HB := n2_; clear n0_ n1_ n2_; (try clear hb); (try clear hb2); (try clear hk); (try clear hi); (try clear ho0); have hcz16_0 : w15.cell? ⟨Z4, 0, none⟩ = some (.slice A0_0 l0_0.length c0_0) := (zO Z0.out 0).trans rfl; have hcz16_1 : w15.cell? ⟨Z4, 1, none⟩ = some (.slice A0_1 l0_1.length c0_1) := (zO Z0.out 1).trans rfl; have hcz16_2 : w15.cell? ⟨Z4, 2, none⟩ = some (.slice A0_2 l0_2.length c0_2) := (zO Z0.out 2).trans rfl; have hcz16_3 : w15.cell? ⟨Z4, 3, none⟩ = some (.int .i64 a0_3) := (zO Z0.out 3).trans rfl; have hcz16_4 : w15.cell? ⟨Z4, 4, none⟩ = some (.int .i64 a0_4) := (zO Z0.out 4).trans rfl; have hcz16_5 : w15.cell? ⟨Z4, 5, none⟩ = some (.int .i64 a0_5) := (zO Z0.out 5).trans rfl; have hfz16_0 := yE Z0.out 0; have hfz16_1 := yE Z0.out 1; have hfz16_2 := yE Z0.out 2; have hfz16_3 := yE Z0.out 3; have hfz16_4 := yE Z0.out 4; have hfz16_5 := yE Z0.out 5) | ((with_reducible refine gate_callee (f := 30) rfl ?_); refine goesL_ (some 31) rfl rfl Try.func30 (by kernel_rfl) rfl #[.slice A0_1 l0_1.length c0_1, .slice A2 l2.length c2, .int .i64 a0_4] rfl (by (try simp only [yH, yI, yJ]); first | done | rfl | (simp only [yG, yF]; rfl)) ?_; (with_reducible refine (act_through.calls k _ _ l0_1 _ _ l2 a0_4 t167 t168 _ ?side1 ?side2 ?side3 ?side4 A6.out).mono ?_); (case side1 => repeat (first | exact (yc HR0_1.out HB.out) | (with_reducible refine yS ?_ _) | (with_reducible refine yT ?_ _) | (with_reducible refine yU ?_))); (case side2 => exact HC0_1.out); (case side3 => repeat (first | exact (yc HR2.out HB.out) | (with_reducible refine yS ?_ _) | (with_reducible refine yT ?_ _) | (with_reducible refine yU ?_))); (case side4 => exact HC2.out); rintro e w17 ⟨v169, rfl, ho0, hb⟩; refine ⟨_, rfl, ?_⟩; have n0_ := zK (Kd.R_elder' (by (with_reducible repeat (first | apply zL | apply zM | apply zN)); exact HO166.out) (Kd.R_base ho0) hb); have n1_ := zK (Kd.R_lower (Kd.R_new' ho0 (Kd.R_lt (by (with_reducible repeat (first | apply zL | apply zM | apply zN)); exact HO166.out))) (yK (by repeat (first | (with_reducible first | exact HB.out | apply zJ | apply zD | apply zE | refine zI ?_ Z1.out) | exact HB.out)))); have n2_ := zK (zP (g := Z4) (o := .cells #[.slice A0_0 l0_0.length c0_0, .slice A0_1 l0_1.length c0_1, .slice A0_2 l0_2.length c0_2, .int .i64 a0_3, .int .i64 a0_4, .int .i64 a0_5] 36 (0, 0)) (by (with_reducible repeat (first | refine zF ?_ _ | refine zH ?_ | refine zG ?_ _)); exact Z0.out) hb); have n3_ := zK (yL (by repeat (first | (with_reducible first | exact HB.out | apply zJ | apply zD | apply zE | refine zI ?_ Z1.out) | exact HB.out)) hb); clear HO166 Z0 HB; have HO166 := n0_; have HO170 := n1_; have Z0 := n2_; have HB := n3_; clear n0_ n1_ n2_ n3_; (try clear hb); (try clear hb2); (try clear hk); (try clear hi); (try clear ho0); obtain ⟨Ao18, co18, eo18⟩ := Kd.R_slice HO166.out; subst eo18; obtain ⟨Ao19, co19, eo19⟩ := Kd.R_slice HO170.out; subst eo19) | ((with_reducible refine gate_callee (f := 14) rfl ?_); refine goesL_ (some 41) rfl rfl Try.func14 (by kernel_rfl) rfl #[.slice A1 l1.length c1, .slice Ao18 t163.length co18, .slice Ao19 t167.length co19] rfl (by (try simp only [yH, yI, yJ]); first | done | rfl | (simp only [yG, yF]; rfl)) ?_; (with_reducible refine (act_Gate.calls k _ _ l1 _ _ t163 _ _ t167 t171 t172 _ ?side1 ?side2 ?side3 ?side4 ?side5 ?side6 A8.out).mono ?_); (case side1 => repeat (first | exact (yc HR1.out HB.out) | (with_reducible refine yS ?_ _) | (with_reducible refine yT ?_ _) | (with_reducible refine yU ?_))); (case side2 => exact HC1.out); (case side3 => repeat (first | exact (yM HO166.out).2.2 | (with_reducible refine yS ?_ _) | (with_reducible refine yT ?_ _) | (with_reducible refine yU ?_))); (case side4 => exact (yM HO166.out).2.1); (case side5 => repeat (first | exact (yM HO170.out).2.2 | (with_reducible refine yS ?_ _) | (with_reducible refine yT ?_ _) | (with_reducible refine yU ?_))); (case side6 => exact (yM HO170.out).2.1); rintro e w20 ⟨v173, rfl, ho0, hb⟩; refine ⟨_, rfl, ?_⟩; have n0_ := zK (Kd.R_elder' (by (with_reducible repeat (first | apply zL | apply zM | apply zN)); exact HO166.out) (Kd.R_base ho0) hb); have n1_ := zK (Kd.R_elder' (by (with_reducible repeat (first | apply zL | apply zM | apply zN)); exact HO170.out) (Kd.R_base ho0) hb); have n2_ := zK (Kd.R_lower (Kd.R_new' (Kd.R_new' ho0 (Kd.R_lt (by (with_reducible repeat (first | apply zL | apply zM | apply zN)); exact HO166.out))) (Kd.R_lt (by (with_reducible repeat (first | apply zL | apply zM | apply zN)); exact HO170.out))) (yK (by repeat (first | (with_reducible first | exact HB.out | apply zJ | apply zD | apply zE | refine zI ?_ Z1.out) | exact HB.out)))); have n3_ := zK (zP (g := Z4) (o := .cells #[.slice A0_0 l0_0.length c0_0, .slice A0_1 l0_1.length c0_1, .slice A0_2 l0_2.length c0_2, .int .i64 a0_3, .int .i64 a0_4, .int .i64 a0_5] 36 (0, 0)) (by (with_reducible repeat (first | refine zF ?_ _ | refine zH ?_ | refine zG ?_ _)); exact Z0.out) hb); have n4_ := zK (yL (by repeat (first | (with_reducible first | exact HB.out | apply zJ | apply zD | apply zE | refine zI ?_ Z1.out) | exact HB.out)) hb); clear HO166 HO170 Z0 HB; have HO166 := n0_; have HO170 := n1_; have HO174 := n2_; have Z0 := n3_; have HB := n4_; clear n0_ n1_ n2_ n3_ n4_; (try clear hb); (try clear hb2); (try clear hk); (try clear hi); (try clear ho0); have hcz21_0 : w20.cell? ⟨Z4, 0, none⟩ = some (.slice A0_0 l0_0.length c0_0) := (zO Z0.out 0).trans rfl; have hcz21_1 : w20.cell? ⟨Z4, 1, none⟩ = some (.slice A0_1 l0_1.length c0_1) := (zO Z0.out 1).trans rfl; have hcz21_2 : w20.cell? ⟨Z4, 2, none⟩ = some (.slice A0_2 l0_2.length c0_2) := (zO Z0.out 2).trans rfl; have hcz21_3 : w20.cell? ⟨Z4, 3, none⟩ = some (.int .i64 a0_3) := (zO Z0.out 3).trans rfl; have hcz21_4 : w20.cell? ⟨Z4, 4, none⟩ = some (.int .i64 a0_4) := (zO Z0.out 4).trans rfl; have hcz21_5 : w20.cell? ⟨Z4, 5, none⟩ = some (.int .i64 a0_5) := (zO Z0.out 5).trans rfl; have hfz21_0 := yE Z0.out 0; have hfz21_1 := yE Z0.out 1; have hfz21_2 := yE Z0.out 2; have hfz21_3 := yE Z0.out 3; have hfz21_4 := yE Z0.out 4; have hfz21_5 := yE Z0.out 5; obtain ⟨Ao22, co22, eo22⟩ := Kd.R_slice HO174.out; subst eo22) | ((with_reducible refine gate_callee (f := 31) rfl ?_); refine goesL_ (some 53) rfl rfl Try.func31 (by kernel_rfl) rfl #[.slice A0_2 l0_2.length c0_2, .int .i64 (t171.length : Int), .slice Ao22 t171.length co22] rfl (by (try simp only [yH, yI, yJ]); first | done | rfl | (simp only [yG, yF]; rfl)) ?_; (with_reducible refine (vec_Times.calls _ _ l0_2 (t171.length : Int) _ _ t171 t175 t176 _ ?side1 ?side2 ?side3 ?side4 A10.out).mono ?_); (case side1 => repeat (first | exact (yc HR0_2.out HB.out) | (with_reducible refine yS ?_ _) | (with_reducible refine yT ?_ _) | (with_reducible refine yU ?_))); (case side2 => exact HC0_2.out); (case side3 => repeat (first | exact (yM HO174.out).2.2 | (with_reducible refine yS ?_ _) | (with_reducible refine yT ?_ _) | (with_reducible refine yU ?_))); (case side4 => exact (yM HO174.out).2.1); rintro e w23 ⟨v177, rfl, ho0, hb⟩; refine ⟨_, rfl, ?_⟩; have n0_ := zK (yb (by (with_reducible repeat (first | apply zL | apply zM | apply zN)); exact HO166.out) hb); have n1_ := zK (yb (by (with_reducible repeat (first | apply zL | apply zM | apply zN)); exact HO170.out) hb); have n2_ := zK (yb (by (with_reducible repeat (first | apply zL | apply zM | apply zN)); exact HO174.out) hb); have n3_ := zK (Kd.R_lower ho0 (yK (by repeat (first | (with_reducible first | exact HB.out | apply zJ | apply zD | apply zE | refine zI ?_ Z1.out) | exact HB.out)))); have n4_ := zK (zP (g := Z4) (o := .cells #[.slice A0_0 l0_0.length c0_0, .slice A0_1 l0_1.length c0_1, .slice A0_2 l0_2.length c0_2, .int .i64 a0_3, .int .i64 a0_4, .int .i64 a0_5] 36 (0, 0)) (by (with_reducible repeat (first | refine zF ?_ _ | refine zH ?_ | refine zG ?_ _)); exact Z0.out) hb); have n5_ := zK (yL (by repeat (first | (with_reducible first | exact HB.out | apply zJ | apply zD | apply zE | refine zI ?_ Z1.out) | exact HB.out)) hb); clear HO166 HO170 HO174 Z0 HB; have HO166 := n0_; have HO170 := n1_; have HO174 := n2_; have HO178 := n3_; have Z0 := n4_; have HB := n5_; clear n0_ n1_ n2_ n3_ n4_ n5_; (try clear hb); (try clear hb2); (try clear hk); (try clear hi); (try clear ho0); have hcz24_0 : w23.cell? ⟨Z4, 0, none⟩ = some (.slice A0_0 l0_0.length c0_0) := (zO Z0.out 0).trans rfl; have hcz24_1 : w23.cell? ⟨Z4, 1, none⟩ = some (.slice A0_1 l0_1.length c0_1) := (zO Z0.out 1).trans rfl; have hcz24_2 : w23.cell? ⟨Z4, 2, none⟩ = some (.slice A0_2 l0_2.length c0_2) := (zO Z0.out 2).trans rfl; have hcz24_3 : w23.cell? ⟨Z4, 3, none⟩ = some (.int .i64 a0_3) := (zO Z0.out 3).trans rfl; have hcz24_4 : w23.cell? ⟨Z4, 4, none⟩ = some (.int .i64 a0_4) := (zO Z0.out 4).trans rfl; have hcz24_5 : w23.cell? ⟨Z4, 5, none⟩ = some (.int .i64 a0_5) := (zO Z0.out 5).trans rfl; have hfz24_0 := yE Z0.out 0; have hfz24_1 := yE Z0.out 1; have hfz24_2 := yE Z0.out 2; have hfz24_3 := yE Z0.out 3; have hfz24_4 := yE Z0.out 4; have hfz24_5 := yE Z0.out 5; obtain ⟨Ao25, co25, eo25⟩ := Kd.R_slice HO178.out; subst eo25) | ((with_reducible refine gate_callee (f := 32) rfl ?_); refine goesL_ (some 62) rfl rfl Try.func32 (by kernel_rfl) rfl #[.slice Ao25 t175.length co25, .int .i64 a0_5] rfl (by (try simp only [yH, yI, yJ]); first | done | rfl | (simp only [yG, yF]; rfl)) ?_; (with_reducible refine (vec_Scale.calls k (fun k_ => some k_ = (.slice Ao25 t175.length co25 : Value).ownBlock) _ _ t175 a0_5 t179 t182 _ ?side1 A12.out).mono ?_); (case side1 => exact Kd.R_V (Kd.R_tight rfl (Kd.R_types (Kd.R_apart' (Kd.R_apart' (Kd.R_apart' (HO178.out) (Kd.R_typed HO166.out) (by decide)) (Kd.R_typed HO170.out) (by decide)) (Kd.R_typed HO174.out) (by decide)) Z0.out (by decide)))); rintro e w26 ⟨v180, rfl, ho0, hb⟩; refine ⟨_, rfl, ?_⟩; have n0_ := zK (yb (by (with_reducible repeat (first | apply zL | apply zM | apply zN)); exact HO166.out) hb); have n1_ := zK (yb (by (with_reducible repeat (first | apply zL | apply zM | apply zN)); exact HO170.out) hb); have n2_ := zK (yb (by (with_reducible repeat (first | apply zL | apply zM | apply zN)); exact HO174.out) hb); have n3_ := zK (Kd.R_elder' (by (with_reducible repeat (first | apply zL | apply zM | apply zN)); exact HO178.out) (Kd.R_base ho0) hb); have n4_ := zK (Kd.R_lower (Kd.R_new' (yd (ok' := fun k_ => True) ho0 (fun _ hk_ => trivial)) (Kd.R_lt (by (with_reducible repeat (first | apply zL | apply zM | apply zN)); exact HO178.out))) (yK (by repeat (first | (with_reducible first | exact HB.out | apply zJ | apply zD | apply zE | refine zI ?_ Z1.out) | exact HB.out)))); have n5_ := zK (zP (g := Z4) (o := .cells #[.slice A0_0 l0_0.length c0_0, .slice A0_1 l0_1.length c0_1, .slice A0_2 l0_2.length c0_2, .int .i64 a0_3, .int .i64 a0_4, .int .i64 a0_5] 36 (0, 0)) (by (with_reducible repeat (first | refine zF ?_ _ | refine zH ?_ | refine zG ?_ _)); exact Z0.out) hb); have n6_ := zK (yL (by repeat (first | (with_reducible first | exact HB.out | apply zJ | apply zD | apply zE | refine zI ?_ Z1.out) | exact HB.out)) hb); clear HO166 HO170 HO174 HO178 Z0 HB; have HO166 := n0_; have HO170 := n1_; have HO174 := n2_; have HO178 := n3_; have HO181 := n4_; have Z0 := n5_; have HB := n6_; clear n0_ n1_ n2_ n3_ n4_ n5_ n6_; (try clear hb); (try clear hb2); (try clear hk); (try clear hi); (try clear ho0)))
     go_ret2
     exact ⟨_, by first | rfl | (simp [errW_none, errW_some] <;> rfl) | (simp [*, errW_none, errW_some] <;> rfl), by (with_reducible repeat (first | apply zL | apply zM | apply zN)); exact yd HO181.out (fun _ hk => trivial), by repeat (first | (with_reducible first | exact HB.out | apply zJ | apply zD | apply zE | refine zI ?_ Z1.out) | exact HB.out)⟩
    ·rw [if_neg c11] at H
     have c11b0 : (t176 == 0) = false := beq_eq_false_iff_ne.mpr c11
     have c11b1 : (t176 != 0) = true := bne_iff_ne.mpr c11
     simp only [yZ, ya] at H
     obtain ⟨rfl, rfl⟩ := H
     go_enter Try.func17, Try.ntmps17
     go_wp2_with (first | ((with_reducible refine gate_dst (N := 3) rfl ?_); refine box_event ?hg (N := 3) ?hd (cs := #[.slice A0_0 l0_0.length c0_0, .slice A0_1 l0_1.length c0_1, .slice A0_2 l0_2.length c0_2, .int .i64 a0_3, .int .i64 a0_4, .int .i64 a0_5]) (t := 36) ?hr ?_; (case hd => rfl); (case hg => rfl); (case hr => first | (go_simp; done) | (go_simp; rfl)); intro Z4 hg w27 hbox hb; have n0_ := zK (yL (by repeat (first | (with_reducible first | exact HB.out | apply zJ | apply zD | apply zE) | exact HB.out)) hb); have n1_ := zK (hbox); have n2_ := zK ((by rw [hg]; exact (yK (by repeat (first | (with_reducible first | exact HB.out | apply zJ | apply zD | apply zE) | exact HB.out))) : w.heap.size ≤ Z4)); have n3_ := zK ((by rw [hg]; exact (yK (by repeat (first | (with_reducible first | exact HB.out | apply zJ | apply zD | apply zE) | exact HB.out))) : w.heap.size ≤ Z4)); clear HB; have HB := n0_; have Z0 := n1_; have Z2 := n2_; have Z1 := n3_; clear n0_ n1_ n2_ n3_ hb hbox hg; have hcz28_0 : w27.cell? ⟨Z4, 0, none⟩ = some (.slice A0_0 l0_0.length c0_0) := (zO Z0.out 0).trans rfl; have hcz28_1 : w27.cell? ⟨Z4, 1, none⟩ = some (.slice A0_1 l0_1.length c0_1) := (zO Z0.out 1).trans rfl; have hcz28_2 : w27.cell? ⟨Z4, 2, none⟩ = some (.slice A0_2 l0_2.length c0_2) := (zO Z0.out 2).trans rfl; have hcz28_3 : w27.cell? ⟨Z4, 3, none⟩ = some (.int .i64 a0_3) := (zO Z0.out 3).trans rfl; have hcz28_4 : w27.cell? ⟨Z4, 4, none⟩ = some (.int .i64 a0_4) := (zO Z0.out 4).trans rfl; have hcz28_5 : w27.cell? ⟨Z4, 5, none⟩ = some (.int .i64 a0_5) := (zO Z0.out 5).trans rfl; have hfz28_0 := yE Z0.out 0; have hfz28_1 := yE Z0.out 1; have hfz28_2 := yE Z0.out 2; have hfz28_3 := yE Z0.out 3; have hfz28_4 := yE Z0.out 4; have hfz28_5 := yE Z0.out 5) | ((with_reducible refine gate_callee (f := 30) rfl ?_); refine goesL_ (some 19) rfl rfl Try.func30 (by kernel_rfl) rfl #[.slice A0_0 l0_0.length c0_0, .slice A2 l2.length c2, .int .i64 a0_3] rfl (by (try simp only [yH, yI, yJ]); first | done | rfl | (simp only [yG, yF]; rfl)) ?_; (with_reducible refine (act_through.calls k _ _ l0_0 _ _ l2 a0_3 t163 t164 _ ?side1 ?side2 ?side3 ?side4 A4.out).mono ?_); (case side1 => repeat (first | exact (yc HR0_0.out HB.out) | (with_reducible refine yS ?_ _) | (with_reducible refine yT ?_ _) | (with_reducible refine yU ?_))); (case side2 => exact HC0_0.out); (case side3 => repeat (first | exact (yc HR2.out HB.out) | (with_reducible refine yS ?_ _) | (with_reducible refine yT ?_ _) | (with_reducible refine yU ?_))); (case side4 => exact HC2.out); rintro e w29 ⟨v165, rfl, ho0, hb⟩; refine ⟨_, rfl, ?_⟩; have n0_ := zK (Kd.R_lower ho0 (yK (by repeat (first | (with_reducible first | exact HB.out | apply zJ | apply zD | apply zE | refine zI ?_ Z1.out) | exact HB.out)))); have n1_ := zK (zP (g := Z4) (o := .cells #[.slice A0_0 l0_0.length c0_0, .slice A0_1 l0_1.length c0_1, .slice A0_2 l0_2.length c0_2, .int .i64 a0_3, .int .i64 a0_4, .int .i64 a0_5] 36 (0, 0)) (by (with_reducible repeat (first | refine zF ?_ _ | refine zH ?_ | refine zG ?_ _)); exact Z0.out) hb); have n2_ := zK (yL (by repeat (first | (with_reducible first | exact HB.out | apply zJ | apply zD | apply zE | refine zI ?_ Z1.out) | exact HB.out)) hb); clear Z0 HB; have HO166 := n0_; have Z0 := n1_; have HB := n2_; clear n0_ n1_ n2_; (try clear hb); (try clear hb2); (try clear hk); (try clear hi); (try clear ho0); have hcz30_0 : w29.cell? ⟨Z4, 0, none⟩ = some (.slice A0_0 l0_0.length c0_0) := (zO Z0.out 0).trans rfl; have hcz30_1 : w29.cell? ⟨Z4, 1, none⟩ = some (.slice A0_1 l0_1.length c0_1) := (zO Z0.out 1).trans rfl; have hcz30_2 : w29.cell? ⟨Z4, 2, none⟩ = some (.slice A0_2 l0_2.length c0_2) := (zO Z0.out 2).trans rfl; have hcz30_3 : w29.cell? ⟨Z4, 3, none⟩ = some (.int .i64 a0_3) := (zO Z0.out 3).trans rfl; have hcz30_4 : w29.cell? ⟨Z4, 4, none⟩ = some (.int .i64 a0_4) := (zO Z0.out 4).trans rfl; have hcz30_5 : w29.cell? ⟨Z4, 5, none⟩ = some (.int .i64 a0_5) := (zO Z0.out 5).trans rfl; have hfz30_0 := yE Z0.out 0; have hfz30_1 := yE Z0.out 1; have hfz30_2 := yE Z0.out 2; have hfz30_3 := yE Z0.out 3; have hfz30_4 := yE Z0.out 4; have hfz30_5 := yE Z0.out 5) | ((with_reducible refine gate_callee (f := 30) rfl ?_); refine goesL_ (some 31) rfl rfl Try.func30 (by kernel_rfl) rfl #[.slice A0_1 l0_1.length c0_1, .slice A2 l2.length c2, .int .i64 a0_4] rfl (by (try simp only [yH, yI, yJ]); first | done | rfl | (simp only [yG, yF]; rfl)) ?_; (with_reducible refine (act_through.calls k _ _ l0_1 _ _ l2 a0_4 t167 t168 _ ?side1 ?side2 ?side3 ?side4 A6.out).mono ?_); (case side1 => repeat (first | exact (yc HR0_1.out HB.out) | (with_reducible refine yS ?_ _) | (with_reducible refine yT ?_ _) | (with_reducible refine yU ?_))); (case side2 => exact HC0_1.out); (case side3 => repeat (first | exact (yc HR2.out HB.out) | (with_reducible refine yS ?_ _) | (with_reducible refine yT ?_ _) | (with_reducible refine yU ?_))); (case side4 => exact HC2.out); rintro e w31 ⟨v169, rfl, ho0, hb⟩; refine ⟨_, rfl, ?_⟩; have n0_ := zK (Kd.R_elder' (by (with_reducible repeat (first | apply zL | apply zM | apply zN)); exact HO166.out) (Kd.R_base ho0) hb); have n1_ := zK (Kd.R_lower (Kd.R_new' ho0 (Kd.R_lt (by (with_reducible repeat (first | apply zL | apply zM | apply zN)); exact HO166.out))) (yK (by repeat (first | (with_reducible first | exact HB.out | apply zJ | apply zD | apply zE | refine zI ?_ Z1.out) | exact HB.out)))); have n2_ := zK (zP (g := Z4) (o := .cells #[.slice A0_0 l0_0.length c0_0, .slice A0_1 l0_1.length c0_1, .slice A0_2 l0_2.length c0_2, .int .i64 a0_3, .int .i64 a0_4, .int .i64 a0_5] 36 (0, 0)) (by (with_reducible repeat (first | refine zF ?_ _ | refine zH ?_ | refine zG ?_ _)); exact Z0.out) hb); have n3_ := zK (yL (by repeat (first | (with_reducible first | exact HB.out | apply zJ | apply zD | apply zE | refine zI ?_ Z1.out) | exact HB.out)) hb); clear HO166 Z0 HB; have HO166 := n0_; have HO170 := n1_; have Z0 := n2_; have HB := n3_; clear n0_ n1_ n2_ n3_; (try clear hb); (try clear hb2); (try clear hk); (try clear hi); (try clear ho0); obtain ⟨Ao32, co32, eo32⟩ := Kd.R_slice HO166.out; subst eo32; obtain ⟨Ao33, co33, eo33⟩ := Kd.R_slice HO170.out; subst eo33) | ((with_reducible refine gate_callee (f := 14) rfl ?_); refine goesL_ (some 41) rfl rfl Try.func14 (by kernel_rfl) rfl #[.slice A1 l1.length c1, .slice Ao32 t163.length co32, .slice Ao33 t167.length co33] rfl (by (try simp only [yH, yI, yJ]); first | done | rfl | (simp only [yG, yF]; rfl)) ?_; (with_reducible refine (act_Gate.calls k _ _ l1 _ _ t163 _ _ t167 t171 t172 _ ?side1 ?side2 ?side3 ?side4 ?side5 ?side6 A8.out).mono ?_); (case side1 => repeat (first | exact (yc HR1.out HB.out) | (with_reducible refine yS ?_ _) | (with_reducible refine yT ?_ _) | (with_reducible refine yU ?_))); (case side2 => exact HC1.out); (case side3 => repeat (first | exact (yM HO166.out).2.2 | (with_reducible refine yS ?_ _) | (with_reducible refine yT ?_ _) | (with_reducible refine yU ?_))); (case side4 => exact (yM HO166.out).2.1); (case side5 => repeat (first | exact (yM HO170.out).2.2 | (with_reducible refine yS ?_ _) | (with_reducible refine yT ?_ _) | (with_reducible refine yU ?_))); (case side6 => exact (yM HO170.out).2.1); rintro e w34 ⟨v173, rfl, ho0, hb⟩; refine ⟨_, rfl, ?_⟩; have n0_ := zK (Kd.R_elder' (by (with_reducible repeat (first | apply zL | apply zM | apply zN)); exact HO166.out) (Kd.R_base ho0) hb); have n1_ := zK (Kd.R_elder' (by (with_reducible repeat (first | apply zL | apply zM | apply zN)); exact HO170.out) (Kd.R_base ho0) hb); have n2_ := zK (Kd.R_lower (Kd.R_new' (Kd.R_new' ho0 (Kd.R_lt (by (with_reducible repeat (first | apply zL | apply zM | apply zN)); exact HO166.out))) (Kd.R_lt (by (with_reducible repeat (first | apply zL | apply zM | apply zN)); exact HO170.out))) (yK (by repeat (first | (with_reducible first | exact HB.out | apply zJ | apply zD | apply zE | refine zI ?_ Z1.out) | exact HB.out)))); have n3_ := zK (zP (g := Z4) (o := .cells #[.slice A0_0 l0_0.length c0_0, .slice A0_1 l0_1.length c0_1, .slice A0_2 l0_2.length c0_2, .int .i64 a0_3, .int .i64 a0_4, .int .i64 a0_5] 36 (0, 0)) (by (with_reducible repeat (first | refine zF ?_ _ | refine zH ?_ | refine zG ?_ _)); exact Z0.out) hb); have n4_ := zK (yL (by repeat (first | (with_reducible first | exact HB.out | apply zJ | apply zD | apply zE | refine zI ?_ Z1.out) | exact HB.out)) hb); clear HO166 HO170 Z0 HB; have HO166 := n0_; have HO170 := n1_; have HO174 := n2_; have Z0 := n3_; have HB := n4_; clear n0_ n1_ n2_ n3_ n4_; (try clear hb); (try clear hb2); (try clear hk); (try clear hi); (try clear ho0); have hcz35_0 : w34.cell? ⟨Z4, 0, none⟩ = some (.slice A0_0 l0_0.length c0_0) := (zO Z0.out 0).trans rfl; have hcz35_1 : w34.cell? ⟨Z4, 1, none⟩ = some (.slice A0_1 l0_1.length c0_1) := (zO Z0.out 1).trans rfl; have hcz35_2 : w34.cell? ⟨Z4, 2, none⟩ = some (.slice A0_2 l0_2.length c0_2) := (zO Z0.out 2).trans rfl; have hcz35_3 : w34.cell? ⟨Z4, 3, none⟩ = some (.int .i64 a0_3) := (zO Z0.out 3).trans rfl; have hcz35_4 : w34.cell? ⟨Z4, 4, none⟩ = some (.int .i64 a0_4) := (zO Z0.out 4).trans rfl; have hcz35_5 : w34.cell? ⟨Z4, 5, none⟩ = some (.int .i64 a0_5) := (zO Z0.out 5).trans rfl; have hfz35_0 := yE Z0.out 0; have hfz35_1 := yE Z0.out 1; have hfz35_2 := yE Z0.out 2; have hfz35_3 := yE Z0.out 3; have hfz35_4 := yE Z0.out 4; have hfz35_5 := yE Z0.out 5; obtain ⟨Ao36, co36, eo36⟩ := Kd.R_slice HO174.out; subst eo36) | ((with_reducible refine gate_callee (f := 31) rfl ?_); refine goesL_ (some 53) rfl rfl Try.func31 (by kernel_rfl) rfl #[.slice A0_2 l0_2.length c0_2, .int .i64 (t171.length : Int), .slice Ao36 t171.length co36] rfl (by (try simp only [yH, yI, yJ]); first | done | rfl | (simp only [yG, yF]; rfl)) ?_; (with_reducible refine (vec_Times.calls _ _ l0_2 (t171.length : Int) _ _ t171 t175 t176 _ ?side1 ?side2 ?side3 ?side4 A10.out).mono ?_); (case side1 => repeat (first | exact (yc HR0_2.out HB.out) | (with_reducible refine yS ?_ _) | (with_reducible refine yT ?_ _) | (with_reducible refine yU ?_))); (case side2 => exact HC0_2.out); (case side3 => repeat (first | exact (yM HO174.out).2.2 | (with_reducible refine yS ?_ _) | (with_reducible refine yT ?_ _) | (with_reducible refine yU ?_))); (case side4 => exact (yM HO174.out).2.1); rintro e w37 ⟨v177, rfl, ho0, hb⟩; refine ⟨_, rfl, ?_⟩; have n0_ := zK (yb (by (with_reducible repeat (first | apply zL | apply zM | apply zN)); exact HO166.out) hb); have n1_ := zK (yb (by (with_reducible repeat (first | apply zL | apply zM | apply zN)); exact HO170.out) hb); have n2_ := zK (yb (by (with_reducible repeat (first | apply zL | apply zM | apply zN)); exact HO174.out) hb); have n3_ := zK (Kd.R_lower ho0 (yK (by repeat (first | (with_reducible first | exact HB.out | apply zJ | apply zD | apply zE | refine zI ?_ Z1.out) | exact HB.out)))); have n4_ := zK (zP (g := Z4) (o := .cells #[.slice A0_0 l0_0.length c0_0, .slice A0_1 l0_1.length c0_1, .slice A0_2 l0_2.length c0_2, .int .i64 a0_3, .int .i64 a0_4, .int .i64 a0_5] 36 (0, 0)) (by (with_reducible repeat (first | refine zF ?_ _ | refine zH ?_ | refine zG ?_ _)); exact Z0.out) hb); have n5_ := zK (yL (by repeat (first | (with_reducible first | exact HB.out | apply zJ | apply zD | apply zE | refine zI ?_ Z1.out) | exact HB.out)) hb); clear HO166 HO170 HO174 Z0 HB; have HO166 := n0_; have HO170 := n1_; have HO174 := n2_; have HO178 := n3_; have Z0 := n4_; have HB := n5_; clear n0_ n1_ n2_ n3_ n4_ n5_; (try clear hb); (try clear hb2); (try clear hk); (try clear hi); (try clear ho0)))
     go_ret2
     exact ⟨_, by first | rfl | (simp [errW_none, errW_some] <;> rfl) | (simp [*, errW_none, errW_some] <;> rfl), by first | exact Kd.R_nil _ _ _ _ _ | exact Kd.N_nil _ _ _ _ _ | exact Kd.V_nil _ _ _ _ _ | exact Kd.Q_nil _ _ _ _ _ | exact Kd.S_nil _ _ _ _ _, by repeat (first | (with_reducible first | exact HB.out | apply zJ | apply zD | apply zE | refine zI ?_ Z1.out) | exact HB.out)⟩
   ·rw [if_neg c9] at H
    have c9b0 : (t172 == 0) = false := beq_eq_false_iff_ne.mpr c9
    have c9b1 : (t172 != 0) = true := bne_iff_ne.mpr c9
    simp only [yZ, ya] at H
    obtain ⟨rfl, rfl⟩ := H
    go_enter Try.func17, Try.ntmps17
    go_wp2_with (first | ((with_reducible refine gate_dst (N := 3) rfl ?_); refine box_event ?hg (N := 3) ?hd (cs := #[.slice A0_0 l0_0.length c0_0, .slice A0_1 l0_1.length c0_1, .slice A0_2 l0_2.length c0_2, .int .i64 a0_3, .int .i64 a0_4, .int .i64 a0_5]) (t := 36) ?hr ?_; (case hd => rfl); (case hg => rfl); (case hr => first | (go_simp; done) | (go_simp; rfl)); intro Z4 hg w38 hbox hb; have n0_ := zK (yL (by repeat (first | (with_reducible first | exact HB.out | apply zJ | apply zD | apply zE) | exact HB.out)) hb); have n1_ := zK (hbox); have n2_ := zK ((by rw [hg]; exact (yK (by repeat (first | (with_reducible first | exact HB.out | apply zJ | apply zD | apply zE) | exact HB.out))) : w.heap.size ≤ Z4)); have n3_ := zK ((by rw [hg]; exact (yK (by repeat (first | (with_reducible first | exact HB.out | apply zJ | apply zD | apply zE) | exact HB.out))) : w.heap.size ≤ Z4)); clear HB; have HB := n0_; have Z0 := n1_; have Z2 := n2_; have Z1 := n3_; clear n0_ n1_ n2_ n3_ hb hbox hg; have hcz39_0 : w38.cell? ⟨Z4, 0, none⟩ = some (.slice A0_0 l0_0.length c0_0) := (zO Z0.out 0).trans rfl; have hcz39_1 : w38.cell? ⟨Z4, 1, none⟩ = some (.slice A0_1 l0_1.length c0_1) := (zO Z0.out 1).trans rfl; have hcz39_2 : w38.cell? ⟨Z4, 2, none⟩ = some (.slice A0_2 l0_2.length c0_2) := (zO Z0.out 2).trans rfl; have hcz39_3 : w38.cell? ⟨Z4, 3, none⟩ = some (.int .i64 a0_3) := (zO Z0.out 3).trans rfl; have hcz39_4 : w38.cell? ⟨Z4, 4, none⟩ = some (.int .i64 a0_4) := (zO Z0.out 4).trans rfl; have hcz39_5 : w38.cell? ⟨Z4, 5, none⟩ = some (.int .i64 a0_5) := (zO Z0.out 5).trans rfl; have hfz39_0 := yE Z0.out 0; have hfz39_1 := yE Z0.out 1; have hfz39_2 := yE Z0.out 2; have hfz39_3 := yE Z0.out 3; have hfz39_4 := yE Z0.out 4; have hfz39_5 := yE Z0.out 5) | ((with_reducible refine gate_callee (f := 30) rfl ?_); refine goesL_ (some 19) rfl rfl Try.func30 (by kernel_rfl) rfl #[.slice A0_0 l0_0.length c0_0, .slice A2 l2.length c2, .int .i64 a0_3] rfl (by (try simp only [yH, yI, yJ]); first | done | rfl | (simp only [yG, yF]; rfl)) ?_; (with_reducible refine (act_through.calls k _ _ l0_0 _ _ l2 a0_3 t163 t164 _ ?side1 ?side2 ?side3 ?side4 A4.out).mono ?_); (case side1 => repeat (first | exact (yc HR0_0.out HB.out) | (with_reducible refine yS ?_ _) | (with_reducible refine yT ?_ _) | (with_reducible refine yU ?_))); (case side2 => exact HC0_0.out); (case side3 => repeat (first | exact (yc HR2.out HB.out) | (with_reducible refine yS ?_ _) | (with_reducible refine yT ?_ _) | (with_reducible refine yU ?_))); (case side4 => exact HC2.out); rintro e w40 ⟨v165, rfl, ho0, hb⟩; refine ⟨_, rfl, ?_⟩; have n0_ := zK (Kd.R_lower ho0 (yK (by repeat (first | (with_reducible first | exact HB.out | apply zJ | apply zD | apply zE | refine zI ?_ Z1.out) | exact HB.out)))); have n1_ := zK (zP (g := Z4) (o := .cells #[.slice A0_0 l0_0.length c0_0, .slice A0_1 l0_1.length c0_1, .slice A0_2 l0_2.length c0_2, .int .i64 a0_3, .int .i64 a0_4, .int .i64 a0_5] 36 (0, 0)) (by (with_reducible repeat (first | refine zF ?_ _ | refine zH ?_ | refine zG ?_ _)); exact Z0.out) hb); have n2_ := zK (yL (by repeat (first | (with_reducible first | exact HB.out | apply zJ | apply zD | apply zE | refine zI ?_ Z1.out) | exact HB.out)) hb); clear Z0 HB; have HO166 := n0_; have Z0 := n1_; have HB := n2_; clear n0_ n1_ n2_; (try clear hb); (try clear hb2); (try clear hk); (try clear hi); (try clear ho0); have hcz41_0 : w40.cell? ⟨Z4, 0, none⟩ = some (.slice A0_0 l0_0.length c0_0) := (zO Z0.out 0).trans rfl; have hcz41_1 : w40.cell? ⟨Z4, 1, none⟩ = some (.slice A0_1 l0_1.length c0_1) := (zO Z0.out 1).trans rfl; have hcz41_2 : w40.cell? ⟨Z4, 2, none⟩ = some (.slice A0_2 l0_2.length c0_2) := (zO Z0.out 2).trans rfl; have hcz41_3 : w40.cell? ⟨Z4, 3, none⟩ = some (.int .i64 a0_3) := (zO Z0.out 3).trans rfl; have hcz41_4 : w40.cell? ⟨Z4, 4, none⟩ = some (.int .i64 a0_4) := (zO Z0.out 4).trans rfl; have hcz41_5 : w40.cell? ⟨Z4, 5, none⟩ = some (.int .i64 a0_5) := (zO Z0.out 5).trans rfl; have hfz41_0 := yE Z0.out 0; have hfz41_1 := yE Z0.out 1; have hfz41_2 := yE Z0.out 2; have hfz41_3 := yE Z0.out 3; have hfz41_4 := yE Z0.out 4; have hfz41_5 := yE Z0.out 5) | ((with_reducible refine gate_callee (f := 30) rfl ?_); refine goesL_ (some 31) rfl rfl Try.func30 (by kernel_rfl) rfl #[.slice A0_1 l0_1.length c0_1, .slice A2 l2.length c2, .int .i64 a0_4] rfl (by (try simp only [yH, yI, yJ]); first | done | rfl | (simp only [yG, yF]; rfl)) ?_; (with_reducible refine (act_through.calls k _ _ l0_1 _ _ l2 a0_4 t167 t168 _ ?side1 ?side2 ?side3 ?side4 A6.out).mono ?_); (case side1 => repeat (first | exact (yc HR0_1.out HB.out) | (with_reducible refine yS ?_ _) | (with_reducible refine yT ?_ _) | (with_reducible refine yU ?_))); (case side2 => exact HC0_1.out); (case side3 => repeat (first | exact (yc HR2.out HB.out) | (with_reducible refine yS ?_ _) | (with_reducible refine yT ?_ _) | (with_reducible refine yU ?_))); (case side4 => exact HC2.out); rintro e w42 ⟨v169, rfl, ho0, hb⟩; refine ⟨_, rfl, ?_⟩; have n0_ := zK (Kd.R_elder' (by (with_reducible repeat (first | apply zL | apply zM | apply zN)); exact HO166.out) (Kd.R_base ho0) hb); have n1_ := zK (Kd.R_lower (Kd.R_new' ho0 (Kd.R_lt (by (with_reducible repeat (first | apply zL | apply zM | apply zN)); exact HO166.out))) (yK (by repeat (first | (with_reducible first | exact HB.out | apply zJ | apply zD | apply zE | refine zI ?_ Z1.out) | exact HB.out)))); have n2_ := zK (zP (g := Z4) (o := .cells #[.slice A0_0 l0_0.length c0_0, .slice A0_1 l0_1.length c0_1, .slice A0_2 l0_2.length c0_2, .int .i64 a0_3, .int .i64 a0_4, .int .i64 a0_5] 36 (0, 0)) (by (with_reducible repeat (first | refine zF ?_ _ | refine zH ?_ | refine zG ?_ _)); exact Z0.out) hb); have n3_ := zK (yL (by repeat (first | (with_reducible first | exact HB.out | apply zJ | apply zD | apply zE | refine zI ?_ Z1.out) | exact HB.out)) hb); clear HO166 Z0 HB; have HO166 := n0_; have HO170 := n1_; have Z0 := n2_; have HB := n3_; clear n0_ n1_ n2_ n3_; (try clear hb); (try clear hb2); (try clear hk); (try clear hi); (try clear ho0); obtain ⟨Ao43, co43, eo43⟩ := Kd.R_slice HO166.out; subst eo43; obtain ⟨Ao44, co44, eo44⟩ := Kd.R_slice HO170.out; subst eo44) | ((with_reducible refine gate_callee (f := 14) rfl ?_); refine goesL_ (some 41) rfl rfl Try.func14 (by kernel_rfl) rfl #[.slice A1 l1.length c1, .slice Ao43 t163.length co43, .slice Ao44 t167.length co44] rfl (by (try simp only [yH, yI, yJ]); first | done | rfl | (simp only [yG, yF]; rfl)) ?_; (with_reducible refine (act_Gate.calls k _ _ l1 _ _ t163 _ _ t167 t171 t172 _ ?side1 ?side2 ?side3 ?side4 ?side5 ?side6 A8.out).mono ?_); (case side1 => repeat (first | exact (yc HR1.out HB.out) | (with_reducible refine yS ?_ _) | (with_reducible refine yT ?_ _) | (with_reducible refine yU ?_))); (case side2 => exact HC1.out); (case side3 => repeat (first | exact (yM HO166.out).2.2 | (with_reducible refine yS ?_ _) | (with_reducible refine yT ?_ _) | (with_reducible refine yU ?_))); (case side4 => exact (yM HO166.out).2.1); (case side5 => repeat (first | exact (yM HO170.out).2.2 | (with_reducible refine yS ?_ _) | (with_reducible refine yT ?_ _) | (with_reducible refine yU ?_))); (case side6 => exact (yM HO170.out).2.1); rintro e w45 ⟨v173, rfl, ho0, hb⟩; refine ⟨_, rfl, ?_⟩; have n0_ := zK (Kd.R_elder' (by (with_reducible repeat (first | apply zL | apply zM | apply zN)); exact HO166.out) (Kd.R_base ho0) hb); have n1_ := zK (Kd.R_elder' (by (with_reducible repeat (first | apply zL | apply zM | apply zN)); exact HO170.out) (Kd.R_base ho0) hb); have n2_ := zK (Kd.R_lower (Kd.R_new' (Kd.R_new' ho0 (Kd.R_lt (by (with_reducible repeat (first | apply zL | apply zM | apply zN)); exact HO166.out))) (Kd.R_lt (by (with_reducible repeat (first | apply zL | apply zM | apply zN)); exact HO170.out))) (yK (by repeat (first | (with_reducible first | exact HB.out | apply zJ | apply zD | apply zE | refine zI ?_ Z1.out) | exact HB.out)))); have n3_ := zK (zP (g := Z4) (o := .cells #[.slice A0_0 l0_0.length c0_0, .slice A0_1 l0_1.length c0_1, .slice A0_2 l0_2.length c0_2, .int .i64 a0_3, .int .i64 a0_4, .int .i64 a0_5] 36 (0, 0)) (by (with_reducible repeat (first | refine zF ?_ _ | refine zH ?_ | refine zG ?_ _)); exact Z0.out) hb); have n4_ := zK (yL (by repeat (first | (with_reducible first | exact HB.out | apply zJ | apply zD | apply zE | refine zI ?_ Z1.out) | exact HB.out)) hb); clear HO166 HO170 Z0 HB; have HO166 := n0_; have HO170 := n1_; have HO174 := n2_; have Z0 := n3_; have HB := n4_; clear n0_ n1_ n2_ n3_ n4_; (try clear hb); (try clear hb2); (try clear hk); (try clear hi); (try clear ho0)))
    go_ret2
    exact ⟨_, by first | rfl | (simp [errW_none, errW_some] <;> rfl) | (simp [*, errW_none, errW_some] <;> rfl), by first | exact Kd.R_nil _ _ _ _ _ | exact Kd.N_nil _ _ _ _ _ | exact Kd.V_nil _ _ _ _ _ | exact Kd.Q_nil _ _ _ _ _ | exact Kd.S_nil _ _ _ _ _, by repeat (first | (with_reducible first | exact HB.out | apply zJ | apply zD | apply zE | refine zI ?_ Z1.out) | exact HB.out)⟩
  ·rw [if_neg c7] at H
   have c7b0 : (t168 == 0) = false := beq_eq_false_iff_ne.mpr c7
   have c7b1 : (t168 != 0) = true := bne_iff_ne.mpr c7
   simp only [yZ, ya] at H
   obtain ⟨rfl, rfl⟩ := H
   go_enter Try.func17, Try.ntmps17
   go_wp2_with (first | ((with_reducible refine gate_dst (N := 3) rfl ?_); refine box_event ?hg (N := 3) ?hd (cs := #[.slice A0_0 l0_0.length c0_0, .slice A0_1 l0_1.length c0_1, .slice A0_2 l0_2.length c0_2, .int .i64 a0_3, .int .i64 a0_4, .int .i64 a0_5]) (t := 36) ?hr ?_; (case hd => rfl); (case hg => rfl); (case hr => first | (go_simp; done) | (go_simp; rfl)); intro Z4 hg w46 hbox hb; have n0_ := zK (yL (by repeat (first | (with_reducible first | exact HB.out | apply zJ | apply zD | apply zE) | exact HB.out)) hb); have n1_ := zK (hbox); have n2_ := zK ((by rw [hg]; exact (yK (by repeat (first | (with_reducible first | exact HB.out | apply zJ | apply zD | apply zE) | exact HB.out))) : w.heap.size ≤ Z4)); have n3_ := zK ((by rw [hg]; exact (yK (by repeat (first | (with_reducible first | exact HB.out | apply zJ | apply zD | apply zE) | exact HB.out))) : w.heap.size ≤ Z4)); clear HB; have HB := n0_; have Z0 := n1_; have Z2 := n2_; have Z1 := n3_; clear n0_ n1_ n2_ n3_ hb hbox hg; have hcz47_0 : w46.cell? ⟨Z4, 0, none⟩ = some (.slice A0_0 l0_0.length c0_0) := (zO Z0.out 0).trans rfl; have hcz47_1 : w46.cell? ⟨Z4, 1, none⟩ = some (.slice A0_1 l0_1.length c0_1) := (zO Z0.out 1).trans rfl; have hcz47_2 : w46.cell? ⟨Z4, 2, none⟩ = some (.slice A0_2 l0_2.length c0_2) := (zO Z0.out 2).trans rfl; have hcz47_3 : w46.cell? ⟨Z4, 3, none⟩ = some (.int .i64 a0_3) := (zO Z0.out 3).trans rfl; have hcz47_4 : w46.cell? ⟨Z4, 4, none⟩ = some (.int .i64 a0_4) := (zO Z0.out 4).trans rfl; have hcz47_5 : w46.cell? ⟨Z4, 5, none⟩ = some (.int .i64 a0_5) := (zO Z0.out 5).trans rfl; have hfz47_0 := yE Z0.out 0; have hfz47_1 := yE Z0.out 1; have hfz47_2 := yE Z0.out 2; have hfz47_3 := yE Z0.out 3; have hfz47_4 := yE Z0.out 4; have hfz47_5 := yE Z0.out 5) | ((with_reducible refine gate_callee (f := 30) rfl ?_); refine goesL_ (some 19) rfl rfl Try.func30 (by kernel_rfl) rfl #[.slice A0_0 l0_0.length c0_0, .slice A2 l2.length c2, .int .i64 a0_3] rfl (by (try simp only [yH, yI, yJ]); first | done | rfl | (simp only [yG, yF]; rfl)) ?_; (with_reducible refine (act_through.calls k _ _ l0_0 _ _ l2 a0_3 t163 t164 _ ?side1 ?side2 ?side3 ?side4 A4.out).mono ?_); (case side1 => repeat (first | exact (yc HR0_0.out HB.out) | (with_reducible refine yS ?_ _) | (with_reducible refine yT ?_ _) | (with_reducible refine yU ?_))); (case side2 => exact HC0_0.out); (case side3 => repeat (first | exact (yc HR2.out HB.out) | (with_reducible refine yS ?_ _) | (with_reducible refine yT ?_ _) | (with_reducible refine yU ?_))); (case side4 => exact HC2.out); rintro e w48 ⟨v165, rfl, ho0, hb⟩; refine ⟨_, rfl, ?_⟩; have n0_ := zK (Kd.R_lower ho0 (yK (by repeat (first | (with_reducible first | exact HB.out | apply zJ | apply zD | apply zE | refine zI ?_ Z1.out) | exact HB.out)))); have n1_ := zK (zP (g := Z4) (o := .cells #[.slice A0_0 l0_0.length c0_0, .slice A0_1 l0_1.length c0_1, .slice A0_2 l0_2.length c0_2, .int .i64 a0_3, .int .i64 a0_4, .int .i64 a0_5] 36 (0, 0)) (by (with_reducible repeat (first | refine zF ?_ _ | refine zH ?_ | refine zG ?_ _)); exact Z0.out) hb); have n2_ := zK (yL (by repeat (first | (with_reducible first | exact HB.out | apply zJ | apply zD | apply zE | refine zI ?_ Z1.out) | exact HB.out)) hb); clear Z0 HB; have HO166 := n0_; have Z0 := n1_; have HB := n2_; clear n0_ n1_ n2_; (try clear hb); (try clear hb2); (try clear hk); (try clear hi); (try clear ho0); have hcz49_0 : w48.cell? ⟨Z4, 0, none⟩ = some (.slice A0_0 l0_0.length c0_0) := (zO Z0.out 0).trans rfl; have hcz49_1 : w48.cell? ⟨Z4, 1, none⟩ = some (.slice A0_1 l0_1.length c0_1) := (zO Z0.out 1).trans rfl; have hcz49_2 : w48.cell? ⟨Z4, 2, none⟩ = some (.slice A0_2 l0_2.length c0_2) := (zO Z0.out 2).trans rfl; have hcz49_3 : w48.cell? ⟨Z4, 3, none⟩ = some (.int .i64 a0_3) := (zO Z0.out 3).trans rfl; have hcz49_4 : w48.cell? ⟨Z4, 4, none⟩ = some (.int .i64 a0_4) := (zO Z0.out 4).trans rfl; have hcz49_5 : w48.cell? ⟨Z4, 5, none⟩ = some (.int .i64 a0_5) := (zO Z0.out 5).trans rfl; have hfz49_0 := yE Z0.out 0; have hfz49_1 := yE Z0.out 1; have hfz49_2 := yE Z0.out 2; have hfz49_3 := yE Z0.out 3; have hfz49_4 := yE Z0.out 4; have hfz49_5 := yE Z0.out 5) | ((with_reducible refine gate_callee (f := 30) rfl ?_); refine goesL_ (some 31) rfl rfl Try.func30 (by kernel_rfl) rfl #[.slice A0_1 l0_1.length c0_1, .slice A2 l2.length c2, .int .i64 a0_4] rfl (by (try simp only [yH, yI, yJ]); first | done | rfl | (simp only [yG, yF]; rfl)) ?_; (with_reducible refine (act_through.calls k _ _ l0_1 _ _ l2 a0_4 t167 t168 _ ?side1 ?side2 ?side3 ?side4 A6.out).mono ?_); (case side1 => repeat (first | exact (yc HR0_1.out HB.out) | (with_reducible refine yS ?_ _) | (with_reducible refine yT ?_ _) | (with_reducible refine yU ?_))); (case side2 => exact HC0_1.out); (case side3 => repeat (first | exact (yc HR2.out HB.out) | (with_reducible refine yS ?_ _) | (with_reducible refine yT ?_ _) | (with_reducible refine yU ?_))); (case side4 => exact HC2.out); rintro e w50 ⟨v169, rfl, ho0, hb⟩; refine ⟨_, rfl, ?_⟩; have n0_ := zK (Kd.R_elder' (by (with_reducible repeat (first | apply zL | apply zM | apply zN)); exact HO166.out) (Kd.R_base ho0) hb); have n1_ := zK (Kd.R_lower (Kd.R_new' ho0 (Kd.R_lt (by (with_reducible repeat (first | apply zL | apply zM | apply zN)); exact HO166.out))) (yK (by repeat (first | (with_reducible first | exact HB.out | apply zJ | apply zD | apply zE | refine zI ?_ Z1.out) | exact HB.out)))); have n2_ := zK (zP (g := Z4) (o := .cells #[.slice A0_0 l0_0.length c0_0, .slice A0_1 l0_1.length c0_1, .slice A0_2 l0_2.length c0_2, .int .i64 a0_3, .int .i64 a0_4, .int .i64 a0_5] 36 (0, 0)) (by (with_reducible repeat (first | refine zF ?_ _ | refine zH ?_ | refine zG ?_ _)); exact Z0.out) hb); have n3_ := zK (yL (by repeat (first | (with_reducible first | exact HB.out | apply zJ | apply zD | apply zE | refine zI ?_ Z1.out) | exact HB.out)) hb); clear HO166 Z0 HB; have HO166 := n0_; have HO170 := n1_; have Z0 := n2_; have HB := n3_; clear n0_ n1_ n2_ n3_; (try clear hb); (try clear hb2); (try clear hk); (try clear hi); (try clear ho0)))
   go_ret2
   exact ⟨_, by first | rfl | (simp [errW_none, errW_some] <;> rfl) | (simp [*, errW_none, errW_some] <;> rfl), by first | exact Kd.R_nil _ _ _ _ _ | exact Kd.N_nil _ _ _ _ _ | exact Kd.V_nil _ _ _ _ _ | exact Kd.Q_nil _ _ _ _ _ | exact Kd.S_nil _ _ _ _ _, by repeat (first | (with_reducible first | exact HB.out | apply zJ | apply zD | apply zE | refine zI ?_ Z1.out) | exact HB.out)⟩
 ·rw [if_neg c5] at H
  have c5b0 : (t164 == 0) = false := beq_eq_false_iff_ne.mpr c5
  have c5b1 : (t164 != 0) = true := bne_iff_ne.mpr c5
  simp only [yZ, ya] at H
  obtain ⟨rfl, rfl⟩ := H
  go_enter Try.func17, Try.ntmps17
  go_wp2_with (first | ((with_reducible refine gate_dst (N := 3) rfl ?_); refine box_event ?hg (N := 3) ?hd (cs := #[.slice A0_0 l0_0.length c0_0, .slice A0_1 l0_1.length c0_1, .slice A0_2 l0_2.length c0_2, .int .i64 a0_3, .int .i64 a0_4, .int .i64 a0_5]) (t := 36) ?hr ?_; (case hd => rfl); (case hg => rfl); (case hr => first | (go_simp; done) | (go_simp; rfl)); intro Z4 hg w51 hbox hb; have n0_ := zK (yL (by repeat (first | (with_reducible first | exact HB.out | apply zJ | apply zD | apply zE) | exact HB.out)) hb); have n1_ := zK (hbox); have n2_ := zK ((by rw [hg]; exact (yK (by repeat (first | (with_reducible first | exact HB.out | apply zJ | apply zD | apply zE) | exact HB.out))) : w.heap.size ≤ Z4)); have n3_ := zK ((by rw [hg]; exact (yK (by repeat (first | (with_reducible first | exact HB.out | apply zJ | apply zD | apply zE) | exact HB.out))) : w.heap.size ≤ Z4)); clear HB; have HB := n0_; have Z0 := n1_; have Z2 := n2_; have Z1 := n3_; clear n0_ n1_ n2_ n3_ hb hbox hg; have hcz52_0 : w51.cell? ⟨Z4, 0, none⟩ = some (.slice A0_0 l0_0.length c0_0) := (zO Z0.out 0).trans rfl; have hcz52_1 : w51.cell? ⟨Z4, 1, none⟩ = some (.slice A0_1 l0_1.length c0_1) := (zO Z0.out 1).trans rfl; have hcz52_2 : w51.cell? ⟨Z4, 2, none⟩ = some (.slice A0_2 l0_2.length c0_2) := (zO Z0.out 2).trans rfl; have hcz52_3 : w51.cell? ⟨Z4, 3, none⟩ = some (.int .i64 a0_3) := (zO Z0.out 3).trans rfl; have hcz52_4 : w51.cell? ⟨Z4, 4, none⟩ = some (.int .i64 a0_4) := (zO Z0.out 4).trans rfl; have hcz52_5 : w51.cell? ⟨Z4, 5, none⟩ = some (.int .i64 a0_5) := (zO Z0.out 5).trans rfl; have hfz52_0 := yE Z0.out 0; have hfz52_1 := yE Z0.out 1; have hfz52_2 := yE Z0.out 2; have hfz52_3 := yE Z0.out 3; have hfz52_4 := yE Z0.out 4; have hfz52_5 := yE Z0.out 5) | ((with_reducible refine gate_callee (f := 30) rfl ?_); refine goesL_ (some 19) rfl rfl Try.func30 (by kernel_rfl) rfl #[.slice A0_0 l0_0.length c0_0, .slice A2 l2.length c2, .int .i64 a0_3] rfl (by (try simp only [yH, yI, yJ]); first | done | rfl | (simp only [yG, yF]; rfl)) ?_; (with_reducible refine (act_through.calls k _ _ l0_0 _ _ l2 a0_3 t163 t164 _ ?side1 ?side2 ?side3 ?side4 A4.out).mono ?_); (case side1 => repeat (first | exact (yc HR0_0.out HB.out) | (with_reducible refine yS ?_ _) | (with_reducible refine yT ?_ _) | (with_reducible refine yU ?_))); (case side2 => exact HC0_0.out); (case side3 => repeat (first | exact (yc HR2.out HB.out) | (with_reducible refine yS ?_ _) | (with_reducible refine yT ?_ _) | (with_reducible refine yU ?_))); (case side4 => exact HC2.out); rintro e w53 ⟨v165, rfl, ho0, hb⟩; refine ⟨_, rfl, ?_⟩; have n0_ := zK (Kd.R_lower ho0 (yK (by repeat (first | (with_reducible first | exact HB.out | apply zJ | apply zD | apply zE | refine zI ?_ Z1.out) | exact HB.out)))); have n1_ := zK (zP (g := Z4) (o := .cells #[.slice A0_0 l0_0.length c0_0, .slice A0_1 l0_1.length c0_1, .slice A0_2 l0_2.length c0_2, .int .i64 a0_3, .int .i64 a0_4, .int .i64 a0_5] 36 (0, 0)) (by (with_reducible repeat (first | refine zF ?_ _ | refine zH ?_ | refine zG ?_ _)); exact Z0.out) hb); have n2_ := zK (yL (by repeat (first | (with_reducible first | exact HB.out | apply zJ | apply zD | apply zE | refine zI ?_ Z1.out) | exact HB.out)) hb); clear Z0 HB; have HO166 := n0_; have Z0 := n1_; have HB := n2_; clear n0_ n1_ n2_; (try clear hb); (try clear hb2); (try clear hk); (try clear hi); (try clear ho0)))
  go_ret2
  exact ⟨_, by first | rfl | (simp [errW_none, errW_some] <;> rfl) | (simp [*, errW_none, errW_some] <;> rfl), by first | exact Kd.R_nil _ _ _ _ _ | exact Kd.N_nil _ _ _ _ _ | exact Kd.V_nil _ _ _ _ _ | exact Kd.Q_nil _ _ _ _ _ | exact Kd.S_nil _ _ _ _ _, by repeat (first | (with_reducible first | exact HB.out | apply zJ | apply zD | apply zE | refine zI ?_ Z1.out) | exact HB.out)⟩

end Go.Proofs.Ytjcfhgpaipbedaa.A
