/- PoolPlays: the law's walk. -/
import Derived.Test.YtmcmkdpidppcaaaPoolL
namespace Go.Proofs.Ytmcmkdpidppcaaa.St
open Go.Proofs Go.RowKit Go.Proofs.YtmcmkdpidppcaaaW.PrintWords Go.Proofs.YtmcmkdpidppcaaaW.PrintLast Go.Proofs.YtmcmkdpidppcaaaW.PrintMore Go.Proofs.Ytmcmkdpidppcaaa.A Go.Proofs.Ytmcmkdpidppcaaa.Pure
/-- How a script lies. -/
def OpRow (w : World) (A : Option Addr) (ops : List (Int × Int × Int)) : Prop := ∀ j, j < ops.length → ∃ ad, A = some ad ∧ w.cell? (ad.add (j * 3)) = some (.int .i64 (ops.getD j (0, 0, 0)).1) ∧ w.cell? ⟨(ad.add (j * 3)).block, (ad.add (j * 3)).off + 1, none⟩ = some (.int .i64 (ops.getD j (0, 0, 0)).2.1) ∧ w.cell? ⟨(ad.add (j * 3)).block, (ad.add (j * 3)).off + 2, none⟩ = some (.int .i64 (ops.getD j (0, 0, 0)).2.2)
theorem OpRow.kept {w W : World} {A : Option Addr} {ops : List (Int × Int × Int)} (h : OpRow w A ops) (hB : Below w.heap.size w W) : OpRow W A ops := fun j hj => by
  obtain ⟨ad, e, h0, h1, h2⟩ := h j hj
  exact ⟨ad, e, (hB.cell (World.block_lt_of_cell? w _ h0)).trans h0, (hB.cell (World.block_lt_of_cell? w _ h1)).trans h1, (hB.cell (World.block_lt_of_cell? w _ h2)).trans h2⟩
set_option maxRecDepth 100000 in
set_option maxHeartbeats 4000000 in
theorem plays_yes (n : Nat) (hn : 1 ≤ n ∧ n ≤ 65536) (A : Option Addr) (c : Nat) (ops : List (Int × Int × Int)) (w : World) (hO : OpRow w A ops) (hl : ops.length ≤ 4611686018427387904) :
    Calls Try.prog 5 #[.int .i64 (n : Int), .slice A ops.length c] w fun e w' => e = .returned (.bool true) ∧ Below w.heap.size w w' := by
  have HO := Aside0.mk hO
  have HL := Go.Lib.hid hl
  have HN := Go.Lib.hid hn
  have HBg := Aside0.mk (begun_yes (Below.refl w.heap.size w) n hn)
  clear hO hl hn
  go_enter Try.func5, Try.ntmps5
  go_wp2_with (go_at_call 17; refine HBg.out.mono ?_; rintro e w1 ⟨b, vs, vf, lv, L, rfl, hD, hB1, _⟩; have H1 := Aside0.mk (And.intro hD hB1); clear hD hB1 HBg)
  go_loopg [6, 9] (ops.length + 1) (fun kx s4 s7 wr => ∃ (lv : Value) (vf : Value) (L : List S66) (i : Nat), s4 = lv ∧ s7 = .int .i64 (i : Int) ∧ Hid (i ≤ ops.length ∧ ops.length < i + kx) ∧ Aside0 (Duo w wr n b vs vf lv L ∧ Below w.heap.size w wr))
  case atStart => exact ⟨lv, vf, L, 0, rfl, rfl, ⟨Nat.zero_le _, by omega⟩, H1⟩
  case round =>
    clear H1
    obtain ⟨lv2, vf2, L2, i, rfl, rfl, hi, H1⟩ := hrel
    by_cases ci : i < ops.length
    · have hR := HO.out.kept H1.out.2
      obtain ⟨ad, rfl, h0, h1, h2⟩ := hR i ci
      obtain ⟨x0, e0⟩ : ∃ x, x = (ops.getD i (0, 0, 0)).1 := ⟨_, rfl⟩
      obtain ⟨x1, e1⟩ : ∃ x, x = (ops.getD i (0, 0, 0)).2.1 := ⟨_, rfl⟩
      obtain ⟨x2, e2⟩ : ∃ x, x = (ops.getD i (0, 0, 0)).2.2 := ⟨_, rfl⟩
      rw [← e0] at h0
      rw [← e1] at h1
      rw [← e2] at h2
      have z1 : decide ((i : Int) < (ops.length : Int)) = true := decide_eq_true (by omega)
      have z3 : 0 ≤ (i : Int) := by omega
      have z4 : (i : Int) < (ops.length : Int) := by omega
      have CI := Go.Lib.hid ci
      clear hR e0 e1 e2 ci
      go_wp2_with (go_at_call 22; refine (step_calls H1.out.1 H1.out.2 x0 x1 x2).mono ?_; rintro e w2 ⟨lv3, vf3, L3, rfl, hD, hown, hK, hfar, hB2⟩; have H2 := Aside0.mk (And.intro hD hB2); clear hD hown hK hfar hB2)
      go_roundg (ops.length - i)
      case measure => have := hi.2; have := CI.out; omega
      case rel => exact ⟨lv3, vf3, L3, i + 1, rfl, by (have := HL.out; have := CI.out; show Value.int .i64 (wrap64 ((i : Int) + 1)) = Value.int .i64 ((i + 1 : Nat) : Int); congr 1; unfold wrap64; omega), ⟨by have := CI.out; omega, by have := CI.out; omega⟩, H2⟩
    · have z1 : decide ((i : Int) < (ops.length : Int)) = false := decide_eq_false (by omega)
      have z2 : decide (i < ops.length) = false := decide_eq_false ci
      obtain ⟨F, hp, hr, hf⟩ := H1.out.1.pool
      obtain ⟨gl, c1, rfl, hgb, hgl, hle, hcl⟩ := list_cells H1.out.1.row (by have := H1.out.1.len; have := H1.out.1.big; omega)
      have hSl := toS_len L2
      have hlen := H1.out.1.len
      have hbig := H1.out.1.big
      have hsh := free_short hf (by omega)
      have HBG := Aside0.mk (And.intro (show 0 < (toS L2).length by omega) (And.intro (show (toS L2).length ≤ 65536 by omega) (And.intro hgl hcl)))
      clear hcl
      obtain ⟨_, _, hC⟩ := Kd.R_reads' H1.out.1.row
      have HC := Aside0.mk (And.intro hle hC)
      obtain ⟨K, hK⟩ := used_ref L2 (by omega)
      have hk0 := hK K (Nat.le_refl _)
      have hcnt := hf.count
      obtain ⟨u, eu⟩ : ∃ u, u = (takenTo (toS L2) L2.length).length := ⟨_, rfl⟩
      rw [← eu] at hk0
      have hu : (((toS L2).length : Int) - (F.length : Int)) = (u : Int) := by rw [hSl] at hcnt ⊢; rw [eu]; omega
      have hu2 : wrap64 ((L2.length : Int) - (u : Int)) = (F.length : Int) := by rw [hSl] at hu; unfold wrap64; omega
      have hused : Aside0 (∀ w1, PoolAt w.heap.size w1 b vs vf2 (toS L2) F → Calls Try.prog 20 #[.pointer (some ⟨b, 0, none⟩)] w1 fun e w' => e = .returned (.int .i64 (u : Int)) ∧ ∃ k, w' = w1.drewN k) := ⟨fun w1 hP => by rw [← hu]; exact used_any hP (by omega) (by omega)⟩
      have HP := Aside0.mk hp
      rw [hSl]
      clear eu hu hcnt hK hC hle hp hr hf hgb hgl hlen hbig hsh ci hSl
      go_wp2_with (first
        | (go_at_call 23; refine (r05_Used.calls K (some ⟨gl, 0, none⟩) c1 L2 _ _ HC.out.2 HC.out.1 hk0).mono ?_; rintro e w2 ⟨rfl, q, rfl⟩; have HP1 := Aside0.mk (HP.out.kept (pw_below_drewN (Below.refl _ wr) q)); have HW2 := Aside0.mk (whole_calls HP1.out HBG.out.1 HBG.out.2.1 gl c1 HBG.out.2.2.1 HBG.out.2.2.2); rw [toS_len] at HW2)
        | (go_at_call 24; refine HW2.out.mono ?_; rintro e w3 ⟨rfl, hB3⟩; have HP2 := Aside0.mk (HP1.out.keptS (Kept.of_below hB3 (fun _ => False)) (fun _ _ h => h)); have H3 := Aside0.mk hB3; clear hB3)
        | (go_at_call 20; refine (hused.out _ HP2.out).mono ?_; rintro e w4 ⟨rfl, q2, rfl⟩; have HP3 := Aside0.mk (HP2.out.kept (pw_below_drewN (Below.refl _ _) q2)))
        | (go_at_call 21; refine (free_calls HP3.out).mono ?_; rintro e w9 ⟨rfl, h9⟩; have h8 := h9.symm; subst h8; clear h9))
      go_ret
      exact ⟨rfl, pw_below_drewN ((pw_below_drewN H1.out.2 q).trans (H3.out.mono H1.out.2.size)) q2⟩
set_option maxRecDepth 100000 in
set_option maxHeartbeats 1000000 in
theorem plays_no (n : Int) (hn : n < 1 ∨ 65536 < n) (v : Value) (w : World) :
    Calls Try.prog 5 #[.int .i64 n, v] w fun e w' => e = .returned (.bool true) ∧ Below w.heap.size w w' := by
  have hb := begun_no w n hn
  clear hn
  go_enter Try.func5, Try.ntmps5
  go_wp2_with (go_at_call 17; refine hb.mono ?_; rintro e w1 ⟨lv, rfl, hB1⟩; have H1 := Aside0.mk hB1; clear hB1 hb)
  go_ret
  exact ⟨rfl, H1.out⟩
theorem plays_calls (n : Int) (A : Option Addr) (c : Nat) (ops : List (Int × Int × Int)) (w : World) (hO : OpRow w A ops) (hl : ops.length ≤ 4611686018427387904) :
    Calls Try.prog 5 #[.int .i64 n, .slice A ops.length c] w fun e w' => e = .returned (.bool true) ∧ Below w.heap.size w w' := by
  by_cases h : 1 ≤ n ∧ n ≤ 65536
  · obtain ⟨k, rfl⟩ : ∃ k : Nat, n = (k : Int) := ⟨n.toNat, by omega⟩
    exact plays_yes k (by omega) A c ops w hO hl
  · exact plays_no n (by omega) _ w
end Go.Proofs.Ytmcmkdpidppcaaa.St
