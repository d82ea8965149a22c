-- Printed by this session's own driver (wip/tools/xprint.py) over the kit's printer; given functions are this session's own.
import Derived.Test.YtjcfhgpaipbedaaA0
import Derived.Test.YtjcfhgpaipbedaaA1
import Derived.Test.YtjcfhgpaipbedaaA4
import Derived.Test.YtjcfhgpaipbedaaA5
namespace Go.Proofs.Ytjcfhgpaipbedaa.A
open Go.RowKit Go.Proofs.YtjcfhgpaipbedaaW.PrintWords Go.Proofs.YtjcfhgpaipbedaaW.PrintLast Go.Proofs.YtjcfhgpaipbedaaW.PrintMore
attribute [local go_sem] max2_int min2_int max_two min_two max_three min_three max_four min_four   -- for this text's walks alone
set_option linter.unusedVariables false
set_option linter.unusedSimpArgs false

/-! ### w12_ActTables: function 3 -/
mutual
def w12_ActTables.l0 : Nat → Int → Int → Option (Bool)
 | 0, _, _ => none
 | k + 1, x0, x10 => if x10 < 2 then ((act_Table.f x0).bind fun bt242 => ((r12_Table.f k x0).bind fun bt246 => ((w12_same_int8.f k bt242.1 bt246.1).bind fun t250 => (if t250 = true then (w12_ActTables.j1 k x0 bt242.1 x10 (bt242.2 != bt246.2)) else (w12_ActTables.j1 k x0 bt242.1 x10 true))))) else (some true)
def w12_ActTables.j1 : Nat → Int → List Int → Int → Bool → Option (Bool)
 | 0, _, _, _, _ => none
 | k + 1, x0, x3, x10, x30 => if x30 = true then (some false) else (w12_ActTables.l1 k x0 x3 x10 (x3.length : Int) 0)
def w12_ActTables.l1 : Nat → Int → List Int → Int → Int → Int → Option (Bool)
 | 0, _, _, _, _, _ => none
 | k + 1, x0, x3, x10, x32, x33 => if x33 < x32 then (if 0 ≤ x33 then (if x33 < (x3.length : Int) then (w12_ActTables.l1 k x0 (x3.set (x33 : Int).toNat 99) x10 x32 (wrap64 (x33 + 1))) else (none)) else (none)) else (w12_ActTables.l0 k x0 (wrap64 (x10 + 1)))
end
def w12_ActTables.f (k : Nat) (a0 : Int) : Option (Bool) := (w12_awake.f k).bind fun t241 => (if t241 = true then (w12_ActTables.l0 k a0 0) else (some false))
theorem w12_ActTables.mono_l : ∀ k, (∀ y0 y1, LeO (w12_ActTables.l0 k y0 y1) (w12_ActTables.l0 (k + 1) y0 y1)) ∧ (∀ y0 y1 y2 y3, LeO (w12_ActTables.j1 k y0 y1 y2 y3) (w12_ActTables.j1 (k + 1) y0 y1 y2 y3)) ∧ (∀ y0 y1 y2 y3 y4, LeO (w12_ActTables.l1 k y0 y1 y2 y3 y4) (w12_ActTables.l1 (k + 1) y0 y1 y2 y3 y4))
 | 0 => ⟨fun _ _ r h => by simp [w12_ActTables.l0] at h, fun _ _ _ _ r h => by simp [w12_ActTables.j1] at h, fun _ _ _ _ _ r h => by simp [w12_ActTables.l1] at h⟩
 | k + 1 => by
  obtain ⟨ih0, ih1, ih2⟩ := w12_ActTables.mono_l k
  refine ⟨?_, ?_, ?_⟩ <;> (intros; first | unfold w12_ActTables.l0 | unfold w12_ActTables.j1 | unfold w12_ActTables.l1)
  all_goals repeat' first
   | (with_reducible exact ih0 _ _)
   | (with_reducible exact ih1 _ _ _ _)
   | (with_reducible exact ih2 _ _ _ _ _)
   | (with_reducible exact r12_Table.mono _ _)
   | (with_reducible exact w12_awake.mono _)
   | (with_reducible exact w12_same_int8.mono _ _ _)
   | (with_reducible exact yR _)
   | (with_reducible exact yO _)
   | (with_reducible refine yQ ?_ ?_)
   | (with_reducible refine yP ?_ (fun _ => ?_))
   | exact ih0 _ _
   | exact ih1 _ _ _ _
   | exact ih2 _ _ _ _ _
   | exact r12_Table.mono _ _
   | exact w12_awake.mono _
   | exact w12_same_int8.mono _ _ _
   | exact yO _
   | refine yQ ?_ ?_
   | refine yP ?_ (fun _ => ?_)
theorem w12_ActTables.mono : ∀ a0 k, LeO (w12_ActTables.f k a0) (w12_ActTables.f (k + 1) a0) := by
 intro a0 k
 obtain ⟨ih0, ih1, ih2⟩ := w12_ActTables.mono_l k
 unfold w12_ActTables.f
 repeat' first
   | (with_reducible exact ih0 _ _)
   | (with_reducible exact ih1 _ _ _ _)
   | (with_reducible exact ih2 _ _ _ _ _)
   | (with_reducible exact r12_Table.mono _ _)
   | (with_reducible exact w12_awake.mono _)
   | (with_reducible exact w12_same_int8.mono _ _ _)
   | (with_reducible exact yR _)
   | (with_reducible exact yO _)
   | (with_reducible refine yQ ?_ ?_)
   | (with_reducible refine yP ?_ (fun _ => ?_))
   | exact ih0 _ _
   | exact ih1 _ _ _ _
   | exact ih2 _ _ _ _ _
   | exact r12_Table.mono _ _
   | exact w12_awake.mono _
   | exact w12_same_int8.mono _ _ _
   | exact yO _
   | refine yQ ?_ ?_
   | refine yP ?_ (fun _ => ?_)
set_option maxHeartbeats 8000000 in
set_option maxRecDepth 100000 in
theorem w12_ActTables.calls (k : Nat) (a0 : Int) (r : Bool) (w : World) (h : w12_ActTables.f k a0 = some r) :
  Calls Try.prog 3 #[.int .i64 a0] w fun e w' => e = .returned (.bool r) ∧ Below w.heap.size w w' := by
 have HB := zK (Below.refl w.heap.size w)
 have H : ((w12_awake.f k).bind fun t241 => (if t241 = true then (w12_ActTables.l0 k a0 0) else (some false))) = some r := h
 clear h
 replace H := yA.mp H
 obtain ⟨t241, A20, H⟩ := H
 replace H : (if t241 = true then (w12_ActTables.l0 k a0 0) else (some false)) = some r := H
 have A2 := zK A20
 clear A20
 by_cases c3 : t241 = true
 ·subst c3
  have H1 : (w12_ActTables.l0 k a0 0) = some r := by rw [if_pos rfl] at H; exact H
  clear H
  have H := H1
  clear H1
  have H' := zK H
  clear H
  go_enter Try.func3, Try.ntmps3
  go_wp2_with (first | ((with_reducible refine gate_callee (f := 10) rfl ?_); refine goesL_ (some 8) rfl rfl Try.func10 (by kernel_rfl) rfl #[] rfl (by (try simp only [yH, yI, yJ]); first | done | rfl | (simp only [yG, yF]; rfl)) ?_; (with_reducible refine (w12_awake.calls k  true _ A2.out).mono ?_); rintro e w4 ⟨rfl, hb⟩; refine ⟨_, rfl, ?_⟩; have n0_ := zK (yL (by repeat (first | (with_reducible first | exact HB.out | apply zJ | apply zD | apply zE) | exact HB.out)) hb); clear HB; have HB := n0_; clear n0_; (try clear hb); (try clear hb2); (try clear hk); (try clear hi)))
  go_loopg [10] k (fun kq v10 w' => ∃ (x10_1 : Int), v10 = .int .i64 x10_1 ∧ Aside0 (w12_ActTables.l0 kq a0 x10_1 = some r) ∧ Aside0 (kq ≤ k) ∧ Aside0 (Below w.heap.size w w'))
  case atStart => exact ⟨(0), (by first | rfl | (simp; done) | (simp [*]; done)), H', ⟨yN _⟩, ⟨by repeat (first | (with_reducible first | exact HB.out | apply zJ | apply zD | apply zE) | exact HB.out)⟩⟩
  case round =>
   clear H'
   try clear c1
   try clear p2
   try clear c3
   obtain ⟨x10_1, rfl, HA, HK1, HB⟩ := hrel
   cases gk with
   | zero => exact absurd HA.out (by simp [w12_ActTables.l0])
   | succ k1 =>
    have H := HA.out
    clear HA
    simp only [w12_ActTables.l0] at H
    by_cases c5 : x10_1 < 2
    ·rw [if_pos c5] at H
     have c5b0 : decide (x10_1 < 2) = true := yC c5
     clear c5
     replace H := yA.mp H
     obtain ⟨⟨t242, t243⟩, A60, H⟩ := H
     replace H : ((r12_Table.f k1 a0).bind fun bt246 => ((w12_same_int8.f k1 t242 bt246.1).bind fun t250 => (if t250 = true then (w12_ActTables.j1 k1 a0 t242 x10_1 (t243 != bt246.2)) else (w12_ActTables.j1 k1 a0 t242 x10_1 true)))) = some r := H
     have A6 := zK A60
     clear A60
     replace H := yA.mp H
     obtain ⟨⟨t246, t247⟩, A70, H⟩ := H
     replace H : ((w12_same_int8.f k1 t242 t246).bind fun t250 => (if t250 = true then (w12_ActTables.j1 k1 a0 t242 x10_1 (t243 != t247)) else (w12_ActTables.j1 k1 a0 t242 x10_1 true))) = some r := H
     have A7 := zK A70
     clear A70
     have HC8 := zK H
     clear H
     go_upto_region 7 with (first | ((with_reducible refine gate_callee (f := 11) rfl ?_); refine goesL_ (some 14) rfl rfl Try.func11 (by kernel_rfl) rfl #[.int .i64 a0] rfl (by (try simp only [yH, yI, yJ]); first | done | rfl | (simp only [yG, yF]; rfl)) ?_; (with_reducible refine (act_Table.calls a0 t242 t243 _ A6.out).mono ?_); rintro e w9 ⟨v244, rfl, ho0, hb⟩; refine ⟨_, rfl, ?_⟩; have n0_ := zK (Kd.R_lower ho0 (yK (by repeat (first | (with_reducible first | exact HB.out | apply zJ | apply zD | apply zE) | exact HB.out)))); have n1_ := zK (yL (by repeat (first | (with_reducible first | exact HB.out | apply zJ | apply zD | apply zE) | exact HB.out)) hb); clear HB; have HO245 := n0_; have HB := n1_; clear n0_ n1_; (try clear hb); (try clear hb2); (try clear hk); (try clear hi); (try clear ho0)) | ((with_reducible refine gate_callee (f := 12) rfl ?_); refine goesL_ (some 19) rfl rfl Try.func12 (by kernel_rfl) rfl #[.int .i64 a0] rfl (by (try simp only [yH, yI, yJ]); first | done | rfl | (simp only [yG, yF]; rfl)) ?_; (with_reducible refine (r12_Table.calls k1 a0 t246 t247 _ A7.out).mono ?_); rintro e w10 ⟨v248, rfl, ho0, hb⟩; refine ⟨_, rfl, ?_⟩; have n0_ := zK (Kd.R_elder' (by (with_reducible repeat (first | apply zL | apply zM | apply zN)); exact HO245.out) (Kd.R_base ho0) hb); have n1_ := zK (Kd.R_lower (Kd.R_new' ho0 (Kd.R_lt (by (with_reducible repeat (first | apply zL | apply zM | apply zN)); exact HO245.out))) (yK (by repeat (first | (with_reducible first | exact HB.out | apply zJ | apply zD | apply zE) | exact HB.out)))); have n2_ := zK (yL (by repeat (first | (with_reducible first | exact HB.out | apply zJ | apply zD | apply zE) | exact HB.out)) hb); clear HO245 HB; have HO245 := n0_; have HO249 := n1_; have HB := n2_; clear n0_ n1_ n2_; (try clear hb); (try clear hb2); (try clear hk); (try clear hi); (try clear ho0)))
     (try simp only [Act.put, zA, zB, zC])
     go_cut [30] (fun v30 wc => ∃ (kq : Nat) (x30_7 : Bool), v30 = .bool x30_7 ∧ Aside0 (w12_ActTables.j1 kq a0 t242 x10_1 x30_7 = some r) ∧ Aside0 (kq ≤ k1) ∧ Aside0 (Kd.R (Kd.int .i8) 30 wc w.heap.size (fun _ => True) v244 t242) ∧ Aside0 (Below w.heap.size w wc))
     case first =>
      have H := HC8.out
      clear HC8
      replace H := yA.mp H
      obtain ⟨t250, A110, H⟩ := H
      replace H : (if t250 = true then (w12_ActTables.j1 k1 a0 t242 x10_1 (t243 != t247)) else (w12_ActTables.j1 k1 a0 t242 x10_1 true)) = some r := H
      have A11 := zK A110
      clear A110
      by_cases c12 : t250 = true
      ·subst c12
       have H1 : (w12_ActTables.j1 k1 a0 t242 x10_1 (t243 != t247)) = some r := by rw [if_pos rfl] at H; exact H
       clear H
       have H := H1
       clear H1
       have H' := zK H
       clear H
       obtain ⟨Ao13, co13, eo13⟩ := Kd.R_slice HO245.out
       subst eo13
       obtain ⟨Ao14, co14, eo14⟩ := Kd.R_slice HO249.out
       subst eo14
       go_wp2_with (first | ((with_reducible refine gate_callee (f := 13) rfl ?_); refine goesL_ (some 24) rfl rfl Try.func13 (by kernel_rfl) rfl #[.slice Ao13 t242.length co13, .slice Ao14 t246.length co14] rfl (by (try simp only [yH, yI, yJ]); first | done | rfl | (simp only [yG, yF]; rfl)) ?_; (with_reducible refine (w12_same_int8.calls k1 _ _ t242 _ _ t246 true _ ?side1 ?side2 ?side3 ?side4 A11.out).mono ?_); (case side1 => repeat (first | exact (yM HO245.out).2.2 | (with_reducible refine yS ?_ _) | (with_reducible refine yT ?_ _) | (with_reducible refine yU ?_))); (case side2 => exact (yM HO245.out).2.1); (case side3 => repeat (first | exact (yM HO249.out).2.2 | (with_reducible refine yS ?_ _) | (with_reducible refine yT ?_ _) | (with_reducible refine yU ?_))); (case side4 => exact (yM HO249.out).2.1); rintro e w' ⟨rfl, ⟨nd, rfl⟩⟩; refine ⟨_, rfl, ?_⟩))
       go_meet
       case rel => exact ⟨_, ((t243 != t247)), (by first | rfl | (simp; done) | (simp [*]; done)), H', ⟨by have := HK1.out; first | omega | exact yN _⟩, ⟨by (with_reducible repeat (first | apply zL | apply zM | apply zN)); exact yd HO245.out (fun _ hk => trivial)⟩, ⟨by repeat (first | (with_reducible first | exact HB.out | apply zJ | apply zD | apply zE) | exact HB.out)⟩⟩
      ·replace c12 := yh.mpr c12
       subst c12
       have H1 : (w12_ActTables.j1 k1 a0 t242 x10_1 true) = some r := by rw [if_neg (show ¬ (false = true) by decide)] at H; exact H
       clear H
       have H := H1
       clear H1
       have H' := zK H
       clear H
       obtain ⟨Ao15, co15, eo15⟩ := Kd.R_slice HO245.out
       subst eo15
       obtain ⟨Ao16, co16, eo16⟩ := Kd.R_slice HO249.out
       subst eo16
       go_wp2_with (first | ((with_reducible refine gate_callee (f := 13) rfl ?_); refine goesL_ (some 24) rfl rfl Try.func13 (by kernel_rfl) rfl #[.slice Ao15 t242.length co15, .slice Ao16 t246.length co16] rfl (by (try simp only [yH, yI, yJ]); first | done | rfl | (simp only [yG, yF]; rfl)) ?_; (with_reducible refine (w12_same_int8.calls k1 _ _ t242 _ _ t246 false _ ?side1 ?side2 ?side3 ?side4 A11.out).mono ?_); (case side1 => repeat (first | exact (yM HO245.out).2.2 | (with_reducible refine yS ?_ _) | (with_reducible refine yT ?_ _) | (with_reducible refine yU ?_))); (case side2 => exact (yM HO245.out).2.1); (case side3 => repeat (first | exact (yM HO249.out).2.2 | (with_reducible refine yS ?_ _) | (with_reducible refine yT ?_ _) | (with_reducible refine yU ?_))); (case side4 => exact (yM HO249.out).2.1); rintro e w' ⟨rfl, ⟨nd, rfl⟩⟩; refine ⟨_, rfl, ?_⟩))
       go_meet
       case rel => exact ⟨_, (true), (by first | rfl | (simp; done) | (simp [*]; done)), H', ⟨by have := HK1.out; first | omega | exact yN _⟩, ⟨by (with_reducible repeat (first | apply zL | apply zM | apply zN)); exact yd HO245.out (fun _ hk => trivial)⟩, ⟨by repeat (first | (with_reducible first | exact HB.out | apply zJ | apply zD | apply zE) | exact HB.out)⟩⟩
     case rest =>
      clear HC8
      try clear c1
      try clear p2
      try clear c3
      try clear c5
      try clear c5b0
      try clear c10
      try clear c11
      try clear c12
      try clear c13
      try clear p2
      obtain ⟨kq, x30_7, rfl, HA, HJ7, HO_3, HB⟩ := hcut
      cases kq with
      | zero => exact absurd HA.out (by simp [w12_ActTables.j1])
      | succ kj7 =>
       have H := HA.out
       clear HA
       simp only [w12_ActTables.j1] at H
       by_cases c17 : x30_7 = true
       ·subst c17
        have H1 : (some false) = some r := by rw [if_pos rfl] at H; exact H
        clear H
        have H := H1
        clear H1
        obtain rfl := yY H
        go_wp2
        go_ret
        exact ⟨by first | rfl | (simp [errW_none, errW_some] <;> rfl) | (simp [*, errW_none, errW_some] <;> rfl), by repeat (first | (with_reducible first | exact HB.out | apply zJ | apply zD | apply zE) | exact HB.out)⟩
       ·replace c17 := yh.mpr c17
        subst c17
        have H1 : (w12_ActTables.l1 kj7 a0 t242 x10_1 (t242.length : Int) 0) = some r := by rw [if_neg (show ¬ (false = true) by decide)] at H; exact H
        clear H
        have H := H1
        clear H1
        have H' := zK H
        clear H
        obtain ⟨Ao18, co18, eo18⟩ := Kd.R_slice HO_3.out
        subst eo18
        go_wp2
        go_loopg [33] kj7 (fun kq v33 w' => ∃ (x3_3 : List Int) (x33_3 : Int), v33 = .int .i64 x33_3 ∧ Aside0 (w12_ActTables.l1 kq a0 x3_3 x10_1 (t242.length : Int) x33_3 = some r) ∧ Aside0 (kq ≤ kj7) ∧ Aside0 (Kd.R (Kd.int .i8) 30 w' w.heap.size (fun _ => True) (.slice Ao18 t242.length co18) x3_3) ∧ Aside0 (Below w.heap.size w w'))
        case atStart => exact ⟨(t242), (0), (by first | rfl | (simp; done) | (simp [*]; done)), H', ⟨yN _⟩, ⟨by (with_reducible repeat (first | apply zL | apply zM | apply zN)); exact HO_3.out⟩, ⟨by repeat (first | (with_reducible first | exact HB.out | apply zJ | apply zD | apply zE) | exact HB.out)⟩⟩
        case round =>
         clear H'
         try clear c1
         try clear p2
         try clear c3
         try clear c5
         try clear c5b0
         try clear c10
         try clear c11
         try clear c12
         try clear c13
         try clear c17
         try clear p2
         obtain ⟨x3_3, x33_3, rfl, HA, HK3, HO_3, HB⟩ := hrel
         have hl3_3 := (yM HO_3.out).1
         rw [hl3_3] at HO_3
         (try simp only [hl3_3])
         cases gk with
         | zero => exact absurd HA.out (by simp [w12_ActTables.l1])
         | succ k3 =>
          have H := HA.out
          clear HA
          simp only [w12_ActTables.l1] at H
          by_cases c19 : x33_3 < (t242.length : Int)
          ·rw [if_pos c19] at H
           have c19b0 : decide (x33_3 < (t242.length : Int)) = true := yC c19
           clear c19
           by_cases c20 : 0 ≤ x33_3
           ·rw [if_pos c20] at H
            have c20b0 : decide (0 ≤ x33_3) = true := yC c20
            clear c20
            by_cases c21 : x33_3 < (x3_3.length : Int)
            ·rw [if_pos c21] at H
             have c21b0 : decide (x33_3 < (x3_3.length : Int)) = true := yC c21
             clear c21
             obtain ⟨y251, hy251⟩ : ∃ y_ : List Int, y_ = (x3_3.set (x33_3 : Int).toNat 99) := ⟨_, rfl⟩
             replace H : (w12_ActTables.l1 k3 a0 y251 x10_1 (t242.length : Int) (wrap64 (x33_3 + 1))) = some r := by first | (rw [hy251]; with_reducible exact H) | (have H2_ := (yV _ _).symm.trans H; rw [hy251]; with_reducible exact H2_) | (have H2_ := (yV _ _).symm.trans H; with_reducible exact H2_) | with_reducible exact H | (rw [hy251]; exact H) | exact H
             have Ny251 := zK hy251
             clear hy251
             have H' := zK H
             clear H
             have p22 : 0 ≤ (x33_3 : Int) := yB (by first | (with_reducible assumption) | assumption)
             have q22 : (x33_3 : Int) < ((x3_3.length : Int) : Int) := yB (by first | (with_reducible assumption) | assumption)
             obtain ⟨go22, co22, eo22, Z0, gl22, cl22, HG22⟩ := Kd.R_form HO_3.out (by omega)
             (first | cases eo22 | (injection eo22 with ea_ en_ ec_; (first | subst ea_ | (injection ea_ with ea_; subst ea_)); subst ec_; clear en_))
             have GB22 := zK Z0
             have GG22 := zK HG22
             clear Z0 gl22 HG22
             obtain ⟨hx22_0, hf22_0⟩ := Kd.R_celln 0 HO_3.out (x33_3 : Int) p22 q22
             replace p22 := yg p22
             replace q22 := yg q22
             have HP23 := Kd.R_putg HO_3.out (x33_3 : Int) 99
             go_wp2_with (first | ((with_reducible refine gate_store (t := 30) (p := 38) rfl ?_); refine store_event (t := 30) (p := 38) (v := ?vo_w24) (w1 := (wr.setCell ⟨go22, (x33_3 : Int).toNat, none⟩ (.int .i8 99))) ?hg ?ho ?hn ?hr ?_; (case ho => rfl); (case hg => rfl); (case hn => rfl); (case hr => first | (go_simp; done) | (go_simp; rfl)); intro w24 hw; have hg : wr.grownBy w24 (some go22) := (by rw [hw]; exact HP23.2); have hp_ : Kd.R (Kd.int .i8) 30 w24 w.heap.size (fun _ => True) (.slice (some ⟨go22, 0, none⟩) x3_3.length co18) y251 := (by rw [hw, Ny251.out]; exact HP23.1); clear HP23; have n0_ := zK (hp_); have n1_ := zK ((by rw [hw]; exact zI (HB.out) GB22.out : Below w.heap.size w w24)); clear HO_3 HB; have HO_3 := n0_; have HB := n1_; clear n0_ n1_ hg hw hp_))
             (try simp only [← hl3_3])
             go_roundg k3
             case measure => have := HK1.out; have := HJ7.out; have := HK3.out; omega
             case rel => exact ⟨(y251), (wrap64 (x33_3 + 1)), (by first | rfl | (simp; done) | (simp [*]; done)), H', ⟨by have := HK1.out; have := HJ7.out; have := HK3.out; omega⟩, ⟨by (try simp only [hl3_3]); (with_reducible repeat (first | apply zL | apply zM | apply zN)); exact HO_3.out⟩, ⟨by repeat (first | (with_reducible first | exact HB.out | apply zJ | apply zD | apply zE) | exact HB.out)⟩⟩
            ·rw [if_neg c21] at H
             exact absurd H (by simp)
           ·rw [if_neg c20] at H
            exact absurd H (by simp)
          ·rw [if_neg c19] at H
           have c19b0 : decide (x33_3 < (t242.length : Int)) = false := yD c19
           (try simp only [hl3_3] at c19b0)
           clear c19
           have H' := zK H
           clear H
           go_wp2
           (try simp only [← hl3_3])
           go_roundg k3
           case measure => have := HK1.out; have := HJ7.out; have := HK3.out; omega
           case rel => exact ⟨(wrap64 (x10_1 + 1)), (by first | rfl | (simp; done) | (simp [*]; done)), H', ⟨by have := HK1.out; have := HJ7.out; have := HK3.out; omega⟩, ⟨by repeat (first | (with_reducible first | exact HB.out | apply zJ | apply zD | apply zE) | exact HB.out)⟩⟩
    ·rw [if_neg c5] at H
     have c5b0 : decide (x10_1 < 2) = false := yD c5
     clear c5
     obtain rfl := yY H
     go_wp2
     go_ret
     exact ⟨by first | rfl | (simp [errW_none, errW_some] <;> rfl) | (simp [*, errW_none, errW_some] <;> rfl), by repeat (first | (with_reducible first | exact HB.out | apply zJ | apply zD | apply zE) | exact HB.out)⟩
 ·replace c3 := yh.mpr c3
  subst c3
  have H1 : (some false) = some r := by rw [if_neg (show ¬ (false = true) by decide)] at H; exact H
  clear H
  have H := H1
  clear H1
  obtain rfl := yY H
  go_enter Try.func3, Try.ntmps3
  go_wp2_with (first | ((with_reducible refine gate_callee (f := 10) rfl ?_); refine goesL_ (some 8) rfl rfl Try.func10 (by kernel_rfl) rfl #[] rfl (by (try simp only [yH, yI, yJ]); first | done | rfl | (simp only [yG, yF]; rfl)) ?_; (with_reducible refine (w12_awake.calls k  false _ A2.out).mono ?_); rintro e w25 ⟨rfl, hb⟩; refine ⟨_, rfl, ?_⟩; have n0_ := zK (yL (by repeat (first | (with_reducible first | exact HB.out | apply zJ | apply zD | apply zE) | exact HB.out)) hb); clear HB; have HB := n0_; clear n0_; (try clear hb); (try clear hb2); (try clear hk); (try clear hi)))
  go_ret
  exact ⟨by first | rfl | (simp [errW_none, errW_some] <;> rfl) | (simp [*, errW_none, errW_some] <;> rfl), by repeat (first | (with_reducible first | exact HB.out | apply zJ | apply zD | apply zE) | exact HB.out)⟩

/-- THE ONE PURE STATEMENT of w12_ActTables: yours. -/
def w12_ActTables.Pure : Prop := ∀ (a0 : Int), (Lit.int .i64 a0).wf = true → ∃ k, w12_ActTables.f k a0 = some true
theorem w12_ActTables.walk (P : w12_ActTables.Pure) (a0 : Int) (w : World) (w0 : (Lit.int .i64 a0).wf = true) :
  Calls Try.prog 3 #[.int .i64 a0] w fun e w' => e = .returned (.bool true) ∧ Below w.heap.size w w' := by
 obtain ⟨k, h⟩ := P a0 w0
 refine (w12_ActTables.calls k a0 true w h).mono ?_
 rintro e w' ⟨rfl, hd⟩
 exact ⟨rfl, hd⟩

end Go.Proofs.Ytjcfhgpaipbedaa.A
