-- Printed by this session's own driver (wip/tools/xprint.py) over the kit's printer; given functions are this session's own.
import Derived.Test.YtmjepdhjginelaaB0
namespace Go.Proofs.Ytmjepdhjginelaa.B
open Go.RowKit Go.Proofs.YtmjepdhjginelaaW.PrintWords Go.Proofs.YtmjepdhjginelaaW.PrintLast Go.Proofs.YtmjepdhjginelaaW.PrintMore
attribute [local go_sem] max2_int min2_int max_two min_two max_three min_three max_four min_four   -- for this text's walks alone
set_option linter.unusedVariables false
set_option linter.unusedSimpArgs false

/-! ### attend_Look_1: function 37 -/
def attend_Look_1.l0 : Nat → Int → Int → List (List Int) → List (List Int) → Int → Int → Option ((List (List Int)))
 | 0, _, _, _, _, _, _ => none
 | k + 1, x1, x2, x5, x8, x9, x10 => if x10 < x9 then (if 0 ≤ x10 then (if x10 < (x8.length : Int) then (if 0 ≤ x1 then (if x1 ≤ (wrap64 (x1 + x2)) then (if (wrap64 (x1 + x2)) ≤ ((rd_L1 x8 x10).length : Int) then (if x5.length < 5864062014805 then (attend_Look_1.l0 k x1 x2 (x5 ++ [(((rd_L1 x8 x10).take ((wrap64 (x1 + x2)) : Int).toNat).drop (x1 : Int).toNat)]) x8 x9 (wrap64 (x10 + 1))) else (none)) else (none)) else (none)) else (none)) else (none)) else (none)) else (some x5)
def attend_Look_1.f (k : Nat) (l0 : List (List Int)) (a1 : Int) (a2 : Int) : Option ((List (List Int))) := attend_Look_1.l0 k a1 a2 ([] : List (List Int)) l0 (l0.length : Int) 0
theorem attend_Look_1.mono_l : ∀ k, (∀ y0 y1 y2 y3 y4 y5, LeO (attend_Look_1.l0 k y0 y1 y2 y3 y4 y5) (attend_Look_1.l0 (k + 1) y0 y1 y2 y3 y4 y5))
 | 0 => fun _ _ _ _ _ _ r h => by simp [attend_Look_1.l0] at h
 | k + 1 => by
  have ih0 := attend_Look_1.mono_l k
  intros
  unfold attend_Look_1.l0
  all_goals repeat' first
   | (with_reducible exact ih0 _ _ _ _ _ _)
   | (with_reducible exact yR _)
   | (with_reducible exact yO _)
   | (with_reducible refine yQ ?_ ?_)
   | (with_reducible refine yP ?_ (fun _ => ?_))
   | exact ih0 _ _ _ _ _ _
   | exact yO _
   | refine yQ ?_ ?_
   | refine yP ?_ (fun _ => ?_)
theorem attend_Look_1.mono : ∀ a0 a1 a2 k, LeO (attend_Look_1.f k a0 a1 a2) (attend_Look_1.f (k + 1) a0 a1 a2) := by
 intro a0 a1 a2 k
 have ih0 := attend_Look_1.mono_l k
 unfold attend_Look_1.f
 repeat' first
   | (with_reducible exact ih0 _ _ _ _ _ _)
   | (with_reducible exact yR _)
   | (with_reducible exact yO _)
   | (with_reducible refine yQ ?_ ?_)
   | (with_reducible refine yP ?_ (fun _ => ?_))
   | exact ih0 _ _ _ _ _ _
   | exact yO _
   | refine yQ ?_ ?_
   | refine yP ?_ (fun _ => ?_)
set_option maxHeartbeats 8000000 in
set_option maxRecDepth 100000 in
theorem attend_Look_1.calls (k : Nat) (P0_ : Nat → Prop) (A0 : Option Addr) (c0 : Nat) (l0 : List (List Int)) (gf : Nat) (a1 : Int) (gs : Nat) (a2 : Int) (r : List (List Int)) (w : World) (hs0 : Kd.V (Kd.slice 53 (Kd.int .i8)) 22 w w.heap.size (fun k_ => P0_ k_) (.slice A0 l0.length c0) l0) (hbf : w.heap[gf]? = some (.cells #[.int .i64 a1] 3 (0, 0))) (hbs : w.heap[gs]? = some (.cells #[.int .i64 a2] 3 (0, 0))) (h : attend_Look_1.f k l0 a1 a2 = some r) :
  Calls Try.prog 37 #[.slice A0 l0.length c0, .pointer (some ⟨gf, 0, none⟩), .pointer (some ⟨gs, 0, none⟩)] w fun e w' => ∃ v0_ : Value, e = .returned (v0_) ∧ Kd.N (Kd.slice 53 (Kd.int .i8)) 22 w' w.heap.size (fun k_ => (P0_ k_ ∨ w.heap.size ≤ k_)) v0_ r ∧ Below w.heap.size w w' := by
 have HO0 := zK (show Kd.V (Kd.slice 53 (Kd.int .i8)) 22 w w.heap.size (fun k_ => (P0_ k_ ∨ w.heap.size ≤ k_)) (.slice A0 l0.length c0) l0 from Kd.V_mono hs0 (fun k_ hk => .inl hk))
 have HB := zK (Below.refl w.heap.size w)
 have H : (attend_Look_1.l0 k a1 a2 ([] : List (List Int)) l0 (l0.length : Int) 0) = some r := h
 clear h
 have H' := zK H
 clear H
 go_enter Try.func37, Try.ntmps37
 go_wp2
 go_loopg [5, 10] k (fun kq v5 v10 w' => ∃ (x5_1 : List (List Int)) (x10_1 : Int), v10 = .int .i64 x10_1 ∧ Aside0 (attend_Look_1.l0 kq a1 a2 x5_1 l0 (l0.length : Int) x10_1 = some r) ∧ Aside0 (kq ≤ k) ∧ Aside0 (Kd.N (Kd.slice 53 (Kd.int .i8)) 22 w' w.heap.size (fun k_ => (P0_ k_ ∨ w.heap.size ≤ k_)) v5 x5_1) ∧ Aside0 (Kd.V (Kd.slice 53 (Kd.int .i8)) 22 w' w.heap.size (fun k_ => (P0_ k_ ∨ w.heap.size ≤ k_) ∧ some k_ ≠ (v5 : Value).ownBlock) (.slice A0 l0.length c0) l0) ∧ Aside0 (Below w.heap.size w w'))
 case atStart => exact ⟨(([] : List (List Int))), (0), (by first | rfl | (simp; done) | (simp [*]; done)), H', ⟨yN _⟩, ⟨by first | exact Kd.S_nil _ _ _ _ _ | exact Kd.N_nil _ _ _ _ _ | exact Kd.V_nil _ _ _ _ _ | exact Kd.Q_nil _ _ _ _ _ | exact Kd.R_nil _ _ _ _ _⟩, ⟨by (with_reducible repeat (first | apply Kd.V_alloc | apply Kd.V_drewN | apply Kd.V_drew)); exact Kd.V_mono HO0.out (fun _ hk => ⟨hk, (by simp [Value.ownBlock])⟩)⟩, ⟨by repeat (first | (with_reducible first | exact HB.out | apply zJ | apply zD | apply zE) | exact HB.out)⟩⟩
 case round =>
  clear H'
  try clear p2
  try clear c3
  obtain ⟨x5_1, x10_1, rfl, HA, HK1, HO_5, HO_8, HB⟩ := hrel
  have hcf : wr.cell? ⟨gf, 0, none⟩ = some (.int .i64 a1) := (zO (zP hbf HB.out) 0).trans rfl
  have hcs : wr.cell? ⟨gs, 0, none⟩ = some (.int .i64 a2) := (zO (zP hbs HB.out) 0).trans rfl
  cases gk with
  | zero => exact absurd HA.out (by simp [attend_Look_1.l0])
  | succ k1 =>
   have H := HA.out
   clear HA
   simp only [attend_Look_1.l0] at H
   by_cases c4 : x10_1 < (l0.length : Int)
   ·rw [if_pos c4] at H
    have c4b0 : decide (x10_1 < (l0.length : Int)) = true := yC c4
    clear c4
    by_cases c5 : 0 ≤ x10_1
    ·rw [if_pos c5] at H
     have c5b0 : decide (0 ≤ x10_1) = true := yC c5
     clear c5
     by_cases c6 : x10_1 < (l0.length : Int)
     ·rw [if_pos c6] at H
      have c6b0 : decide (x10_1 < (l0.length : Int)) = true := yC c6
      clear c6
      by_cases c7 : 0 ≤ a1
      ·rw [if_pos c7] at H
       have c7b0 := yg c7
       have c7b1 : decide (0 ≤ a1) = true := yC c7
       clear c7
       by_cases c8 : a1 ≤ (wrap64 (a1 + a2))
       ·rw [if_pos c8] at H
        have c8b0 := yg c8
        have c8b1 : decide (a1 ≤ (wrap64 (a1 + a2))) = true := yC c8
        by_cases c9 : (wrap64 (a1 + a2)) ≤ ((rd_L1 l0 x10_1).length : Int)
        ·rw [if_pos c9] at H
         have c9b0 := yg c9
         have c9b1 : decide ((wrap64 (a1 + a2)) ≤ ((rd_L1 l0 x10_1).length : Int)) = true := yC c9
         obtain ⟨y195, hy195⟩ : ∃ y_ : List Int, y_ = (((rd_L1 l0 x10_1).take ((wrap64 (a1 + a2)) : Int).toNat).drop (a1 : Int).toNat) := ⟨_, rfl⟩
         replace H : (if x5_1.length < 5864062014805 then (attend_Look_1.l0 k1 a1 a2 (x5_1 ++ [y195]) l0 (l0.length : Int) (wrap64 (x10_1 + 1))) else (none)) = some r := by first | (rw [hy195]; with_reducible exact H) | (have H2_ := (yV _ _).symm.trans H; rw [hy195]; with_reducible exact H2_) | (have H2_ := (yV _ _).symm.trans H; with_reducible exact H2_) | with_reducible exact H | (rw [hy195]; exact H) | exact H
         have Ny195 := zK hy195
         clear hy195
         by_cases c10 : x5_1.length < 5864062014805
         ·rw [if_pos c10] at H
          have LMc10 := zK c10
          clear c10
          obtain ⟨y200, hy200⟩ : ∃ y_ : List (List Int), y_ = (x5_1 ++ [y195]) := ⟨_, rfl⟩
          replace H : (attend_Look_1.l0 k1 a1 a2 y200 l0 (l0.length : Int) (wrap64 (x10_1 + 1))) = some r := by first | (rw [hy200]; with_reducible exact H) | (have H2_ := (yV _ _).symm.trans H; rw [hy200]; with_reducible exact H2_) | (have H2_ := (yV _ _).symm.trans H; with_reducible exact H2_) | with_reducible exact H | (rw [hy200]; exact H) | exact H
          have Ny200 := zK hy200
          clear hy200
          have H' := zK H
          clear H
          have p194 : 0 ≤ (x10_1 : Int) := yB (by first | (with_reducible assumption) | assumption)
          have q194 : x10_1 < (l0.length : Int) := yB (by first | (with_reducible assumption) | assumption)
          obtain ⟨ad194, A194_0, c194_0, e194, hx194_0, hl194_0, hi194_0⟩ := at_L1 (Kd.V_reads' HO_8.out).2.2 x10_1 p194 q194
          cases e194
          obtain ⟨ce194, hce194, hMe194, hcc194⟩ := Kd.V_get HO_8.out [] x10_1 p194 (by first | exact q194 | exact yB (by first | (with_reducible assumption) | assumption) | (have e_ := (Kd.V_reads' HO_8.out).1; omega))
          obtain ⟨ua194_0, uc194_0, rfl, ul194_0, ge194_0⟩ := Kd.FK_slice_open hMe194
          have hv194_0 := hcc194 0 _ rfl
          rw [Nat.add_zero, show ((Kd.slice 53 (Kd.int .i8))).sz = 1 from rfl, Nat.mul_one] at hv194_0
          replace hv194_0 := yY (hv194_0.symm.trans hx194_0)
          injection hv194_0 with hva_ hvn_ hvc_
          rw [hva_] at ge194_0
          rw [hvc_] at ul194_0
          have HL194_0 := zK (show Kd.V (Kd.int .i8) 53 _ w.heap.size _ _ (rd_L1 l0 x10_1) from Kd.V_mk ul194_0 ge194_0)
          clear hva_ hvn_ hvc_ ge194_0 ul194_0 hcc194 hce194
          have HR194_0 := zK hi194_0
          have HC194_0 := zK hl194_0
          clear hi194_0 hl194_0
          replace p194 := yg p194
          replace q194 := yg q194
          have q11 : ((wrap64 (a1 + a2)) : Int) ≤ (((rd_L1 l0 x10_1).length : Int) : Int) := yB (by first | (with_reducible assumption) | assumption)
          obtain ⟨i011, hi011, _, hsz11, _⟩ := yj info53
          have hroom11 : (rd_L1 l0 x10_1).length ≤ c194_0 := HC194_0.out
          have hC11 : Kd.F (Kd.int .i8) _ _ A194_0 (rd_L1 l0 x10_1).length (rd_L1 l0 x10_1) := (Kd.V_at (base := w.heap.size) HL194_0.out).2.2
          have ql11 : (a1 : Int) ≤ ((wrap64 (a1 + a2)) : Int) := yB (by first | (with_reducible assumption) | assumption)
          have q011 : (0 : Int) ≤ (a1 : Int) := yB (by first | (with_reducible assumption) | assumption)
          have hcut11 := cut_mid (P := Try.prog) 22 53 .i64 .i64 Try.underlying22 hi011 1 hsz11 A194_0 (rd_L1 l0 x10_1).length c194_0 a1 (wrap64 (a1 + a2)) q011 ql11 q11 hroom11
          have hr11 := Kd.F_mid (lo := (a1 : Int).toNat) (hi := ((wrap64 (a1 + a2)) : Int).toNat) (c := c194_0) hC11 (by omega) (by omega) hroom11
          obtain ⟨A11, hA11⟩ : ∃ Aq_, Aq_ = (if c194_0 = (a1 : Int).toNat then A194_0 else (A194_0 : Option Addr).map (·.add ((a1 : Int).toNat * 1))) := ⟨_, rfl⟩
          obtain ⟨c11, hc11⟩ : ∃ cq_, cq_ = c194_0 - (a1 : Int).toNat := ⟨_, rfl⟩
          have hy11 : y195.length = ((wrap64 (a1 + a2)) : Int).toNat - (a1 : Int).toNat := (by rw [Ny195.out, yG, yF] <;> omega)
          rw [show ((rd_L1 l0 x10_1).take ((wrap64 (a1 + a2)) : Int).toNat).drop (a1 : Int).toNat = y195 from Ny195.out.symm] at hr11
          replace hr11 : Kd.F (Kd.int .i8) _ _ A11 y195.length y195 := (by rw [hA11]; exact hr11)
          rw [← hy11, ← hA11, ← hc11] at hcut11
          have HO199 := zK (show Kd.V (Kd.int .i8) 53 _ w.heap.size _ (.slice A11 y195.length c11) y195 from Kd.V_mk (by rw [hy11, hc11]; exact Nat.sub_le_sub_right (yl (by omega) hroom11) _) hr11)
          have HC199 := zK (show y195.length ≤ c11 from by rw [hy11, hc11]; exact Nat.sub_le_sub_right (yl (by omega) hroom11) _)
          clear hr11 hC11 hroom11 hi011 hsz11 hc11
          have KY11 := zK hy11
          have KA11 := zK hA11
          clear hy11 hA11
          replace q11 := yg q11
          go_wp2_with (first | ((with_reducible refine gate_builtin (b := .append) (xs := #[.tmp 14, .tmp 21]) rfl ?_); at_builtin; refine Kd.N_append (Kd.slice 53 (Kd.int .i8)) (w0 := w) w.heap.size rfl (.tmp 14) (.tmp 21) 23 22 (.slice none 0 0) 24 rfl Try.underlying23 info22 rfl (by decide) (by omega) u5 x5_1 y195 [.slice A11 y195.length c11] (fun k_ => (P0_ k_ ∨ w.heap.size ≤ k_)) (fun k_ => ((fun k_ => (P0_ k_ ∨ w.heap.size ≤ k_))) k_ ∧ some k_ ≠ (u5 : Value).ownBlock) rfl rfl ?aP (fun _ hk => hk) ?aF ?aO ?aB ?aS ?aL ?_; (case aP => exact (Kd.FK_slice_mk (Kd.V_reads' (Kd.V_mono (ok' := (fun k_ => ((fun k_ => (P0_ k_ ∨ w.heap.size ≤ k_))) k_ ∧ some k_ ≠ (u5 : Value).ownBlock)) (HO199.out) (fun k_ hk => ⟨hk.1, hk.2⟩))).2.1 (Kd.V_F (Kd.V_mono (ok' := (fun k_ => ((fun k_ => (P0_ k_ ∨ w.heap.size ≤ k_))) k_ ∧ some k_ ≠ (u5 : Value).ownBlock)) (HO199.out) (fun k_ hk => ⟨hk.1, hk.2⟩))))); (case aB => exact (by repeat (first | (with_reducible first | exact HB.out | apply zJ | apply zD | apply zE) | exact HB.out))); (case aF => exact (fun k_ hk => (.inr (yl (yK (by repeat (first | (with_reducible first | exact HB.out | apply zJ | apply zD | apply zE) | exact HB.out))) hk)))); (case aO => exact (by (with_reducible repeat (first | apply Kd.N_alloc | apply Kd.N_drewN | apply Kd.N_drew)); exact HO_5.out)); (case aS => exact (yK (by repeat (first | (with_reducible first | exact HB.out | apply zJ | apply zD | apply zE) | exact HB.out)))); (case aL => have := LMc10.out; omega); intro v201 w12 ho hb hg hat; rw [← Ny200.out] at ho; have n0_ := zK (Kd.V_afterv (ok := (fun k_ => (P0_ k_ ∨ w.heap.size ≤ k_))) (by (with_reducible repeat (first | apply Kd.V_alloc | apply Kd.V_drewN | apply Kd.V_drew)); exact HO_8.out) hg hat); have n1_ := zK (Kd.V_afterv (ok := (fun k_ => (P0_ k_ ∨ w.heap.size ≤ k_))) (by (with_reducible repeat (first | apply Kd.V_alloc | apply Kd.V_drewN | apply Kd.V_drew)); exact HL194_0.out) hg hat); have n2_ := zK (Kd.V_afterv (ok := (fun k_ => (P0_ k_ ∨ w.heap.size ≤ k_))) (by (with_reducible repeat (first | apply Kd.V_alloc | apply Kd.V_drewN | apply Kd.V_drew)); exact HO199.out) hg hat); have n3_ := zK (hb); have n4_ := zK (ho); clear HO_8 HL194_0 HO199 HB HO_5; have HO_8 := n0_; have HL194_0 := n1_; have HO199 := n2_; have HB := n3_; have HO202 := n4_; clear n0_ n1_ n2_ n3_ n4_ ho hb hg hat))
          go_roundg k1
          case measure => have := HK1.out; omega
          case rel => exact ⟨(y200), (wrap64 (x10_1 + 1)), (by first | rfl | (simp; done) | (simp [*]; done)), H', ⟨by have := HK1.out; omega⟩, ⟨by (with_reducible repeat (first | apply Kd.N_alloc | apply Kd.N_drewN | apply Kd.N_drew)); exact HO202.out⟩, ⟨by (with_reducible repeat (first | apply Kd.V_alloc | apply Kd.V_drewN | apply Kd.V_drew)); exact HO_8.out⟩, ⟨by repeat (first | (with_reducible first | exact HB.out | apply zJ | apply zD | apply zE) | exact HB.out)⟩⟩
         ·rw [if_neg c10] at H
          exact absurd H (by simp)
        ·rw [if_neg c9] at H
         exact absurd H (by simp)
       ·rw [if_neg c8] at H
        exact absurd H (by simp)
      ·rw [if_neg c7] at H
       exact absurd H (by simp)
     ·rw [if_neg c6] at H
      exact absurd H (by simp)
    ·rw [if_neg c5] at H
     exact absurd H (by simp)
   ·rw [if_neg c4] at H
    have c4b0 : decide (x10_1 < (l0.length : Int)) = false := yD c4
    clear c4
    obtain rfl := yY H
    go_wp2
    go_ret
    exact ⟨_, by first | rfl | (simp [errW_none, errW_some] <;> rfl) | (simp [*, errW_none, errW_some] <;> rfl), by (with_reducible repeat (first | apply Kd.N_alloc | apply Kd.N_drewN | apply Kd.N_drew)); exact HO_5.out, by repeat (first | (with_reducible first | exact HB.out | apply zJ | apply zD | apply zE) | exact HB.out)⟩

end Go.Proofs.Ytmjepdhjginelaa.B
