/- QueueTickets: the law's walk. -/
import Derived.Laws.Tables
import Derived.Test.YtgolghimefageaaQTick1
namespace Go.Proofs.Ytgolghimefageaa.QT
set_option linter.unusedVariables false
open Go.Proofs Go.RowKit Go.Shelf Go.Lib Go.Maps Go.Proofs.YtgolghimefageaaW.PrintWords Go.Proofs.YtgolghimefageaaW.PrintLast Go.Proofs.YtgolghimefageaaW.PrintMore Go.Proofs.Ytgolghimefageaa.St
/-- How a script lies. -/
def OpRow (w : World) (A : Option Addr) (ops : List (Int × Int × ByteArray × Int)) : Prop := ∀ j, j < ops.length → ∃ ad, A = some ad ∧ w.cell? (ad.add (j * 4)) = some (.int .i64 (ops.getD j (0, 0, ByteArray.empty, 0)).1) ∧ w.cell? ⟨(ad.add (j * 4)).block, (ad.add (j * 4)).off + 1, none⟩ = some (.int .i64 (ops.getD j (0, 0, ByteArray.empty, 0)).2.1) ∧ w.cell? ⟨(ad.add (j * 4)).block, (ad.add (j * 4)).off + 2, none⟩ = some (.string (ops.getD j (0, 0, ByteArray.empty, 0)).2.2.1) ∧ w.cell? ⟨(ad.add (j * 4)).block, (ad.add (j * 4)).off + 3, none⟩ = some (.int .i64 (ops.getD j (0, 0, ByteArray.empty, 0)).2.2.2)
theorem OpRow.kept {w W : World} {A : Option Addr} {ops : List (Int × Int × ByteArray × Int)} (h : OpRow w A ops) (hB : Below w.heap.size w W) : OpRow W A ops := fun j hj => by
  obtain ⟨ad, e, h0, h1, h2, h3⟩ := h j hj
  exact ⟨ad, e, (hB.cell (World.block_lt_of_cell? w _ h0)).trans h0, (hB.cell (World.block_lt_of_cell? w _ h1)).trans h1, (hB.cell (World.block_lt_of_cell? w _ h2)).trans h2, (hB.cell (World.block_lt_of_cell? w _ h3)).trans h3⟩
set_option maxRecDepth 100000 in
set_option maxHeartbeats 8000000 in
theorem tickets_yes (n : Int) (hn : 1 ≤ n ∧ n ≤ 65536) (A : Option Addr) (c : Nat) (ops : List (Int × Int × ByteArray × Int)) (w : World) (hO : OpRow w A ops) (hT : ∀ j, j < ops.length → -9223372036854775808 ≤ (ops.getD j (0, 0, ByteArray.empty, 0)).2.2.2 ∧ (ops.getD j (0, 0, ByteArray.empty, 0)).2.2.2 ≤ 9223372036854775807) (hl : ops.length ≤ 4611686018427387000) :
    Calls Try.prog 4 #[.int .i64 n, .slice A ops.length c] w fun e w' => e = .returned (.bool true) ∧ Below w.heap.size w w' := by
  have HO := Aside0.mk hO
  have HT := Aside0.mk hT
  have HL := Go.Lib.hid hl
  have z1 : decide (n < 1) = false := decide_eq_false (by omega)
  have z2 : decide (65536 < n) = false := decide_eq_false (by omega)
  have HN := Go.Lib.hid hn
  clear hO hl hn hT
  go_enter Try.func4, Try.ntmps4
  go_wp2_with (first
    | (go_at_call 14; refine (new_calls n HN.out w1).mono ?_; rintro e w2 ⟨b, mb, rfl, hQ, hB⟩; have H1 := Aside0.mk (show TSt w w2 b n 0 0 0 0 none from ⟨_, _, mb, 0, [], 0, (hQ.lower HB1.out.size).tight, fun k hk => hk.2, (fun x hx => by cases hx), rfl, by have := HN.out; omega, HN.out.2, by omega, by omega, by omega, by omega, HB1.out.trans (hB.mono HB1.out.size)⟩); clear hQ hB; have eqq := eqp ⟨b, 0, none⟩)
    | (go_at_call 8; refine (awake_calls w).mono ?_; rintro e w1 ⟨rfl, hB1⟩; have HB1 := Aside0.mk hB1; clear hB1))
  clear HB1
  go_loopg [9, 61] (ops.length + 1) (fun kx s9 s61 wr => ∃ (next i n2 : Nat), s9 = .int .i64 (next : Int) ∧ s61 = .int .i64 (i : Int) ∧ Hid (i ≤ ops.length ∧ ops.length < i + kx) ∧ Aside0 (TSt w wr b n next i n2 0 none))
  case atStart => exact ⟨0, 0, 0, rfl, rfl, ⟨Nat.zero_le _, by omega⟩, H1⟩
  case round =>
    clear H1
    obtain ⟨next, i, n2, rfl, rfl, hi, H1⟩ := hrel
    by_cases ci : i < ops.length
    · obtain ⟨ad, rfl, h0, h1, h2, h3⟩ := (HO.out.kept H1.out.bel) i ci
      have hT := HT.out i ci
      obtain ⟨x0, e0⟩ : ∃ x, x = (ops.getD i (0, 0, ByteArray.empty, 0)).1 := ⟨_, rfl⟩
      obtain ⟨x1, e1⟩ : ∃ x, x = (ops.getD i (0, 0, ByteArray.empty, 0)).2.1 := ⟨_, rfl⟩
      obtain ⟨x2, e2⟩ : ∃ x, x = (ops.getD i (0, 0, ByteArray.empty, 0)).2.2.1 := ⟨_, rfl⟩
      obtain ⟨x3, e3⟩ : ∃ x, x = (ops.getD i (0, 0, ByteArray.empty, 0)).2.2.2 := ⟨_, rfl⟩
      rw [← e0] at h0
      rw [← e1] at h1
      rw [← e2] at h2
      rw [← e3] at h3 hT
      have HT3 := Go.Lib.hid hT
      have z1 : decide ((i : Int) < (ops.length : Int)) = true := decide_eq_true (by omega)
      have z3 : 0 ≤ (i : Int) := by omega
      have z4 : (i : Int) < (ops.length : Int) := by omega
      have CI := Go.Lib.hid ci
      clear e0 e1 e2 e3 ci hT
      have HX := Aside0.mk (H1.out.boxed (.cells #[.int .i64 x0, .int .i64 x1, .string x2, .int .i64 x3] 40))
      have HBD := Go.Lib.hid (And.intro H1.out.bounds (show i < 4611686018427387900 by have := HL.out; have := CI.out; omega))
      clear H1
      obtain ⟨B, hB⟩ : ∃ B, B = wr.heap.size := ⟨_, rfl⟩
      rw [← hB] at HX
      have HBB := Go.Lib.hid hB
      have bx : ∀ W : World, W.heap[B]? = some (Obj.cells #[.int .i64 x0, .int .i64 x1, .string x2, .int .i64 x3] 40 (0, 0)) → W.cell? ⟨B, 1, none⟩ = some (.int .i64 x1) ∧ W.cell? ⟨B, 2, none⟩ = some (.string x2) ∧ W.cell? ⟨B, 3, none⟩ = some (.int .i64 x3) := fun W h => ⟨cells_at h 1 _ rfl, cells_at h 2 _ rfl, cells_at h 3 _ rfl⟩
      have HBX := Aside0.mk bx
      clear bx
      have zi : wrap64 ((i : Int) + 1) = ((i + 1 : Nat) : Int) := by have := HBD.out.2; unfold wrap64; omega
      have zn : wrap64 ((next : Int) + 1) = ((next + 1 : Nat) : Int) := by have := HBD.out; clear zi; unfold wrap64; omega
      go_wp2_with fail
      ((with_reducible refine (kind_calls x0 _).mono ?_))
      rintro e' w9 ⟨kc, rfl, hk, h9⟩
      obtain ⟨W1, hW1⟩ : ∃ W1, W1 = wr.alloc (.cells #[.int .i64 x0, .int .i64 x1, .string x2, .int .i64 x3] 40) := ⟨_, rfl⟩
      rw [← hW1] at HX h9
      subst h9
      clear hW1
      rw [← hB]
      obtain ⟨b1, b2, b3⟩ := HBX.out _ (HX.out.box _ rfl)
      clear hB h0 h1 h2 h3
      by_cases k01 : kc = 0 ∨ kc = 1
      · have q0 : (kc == 0) = true ∨ ((kc == 0) = false ∧ (kc == 1) = true) := by
          rcases k01 with rfl | rfl
          · exact .inl rfl
          · exact .inr ⟨rfl, rfl⟩
        clear k01 hk
        by_cases cr : (n2 : Int) < n
        · have HR := Go.Lib.hid cr
          have hr : decide ((n2 : Int) < n) = true := decide_eq_true cr
          clear cr
          rcases q0 with q0 | ⟨q0, q1⟩
          all_goals
            go_wp2_with (first
              | (go_at_call 18; refine HG.out.mono ?_; rintro e w4 ⟨rfl, q, hq⟩; have H4 := Aside0.mk (H3.out.below (W' := w4) (by rw [hq]; exact pw_below_drewN (Below.refl _ _) q)); obtain ⟨d1, d2, d3⟩ := HBX.out _ (H4.out.box _ rfl); clear hq)
              | (go_at_call 17; refine (t_put HX.out HBD.out.2 HR.out x1 x2).mono ?_; rintro e w3 ⟨rfl, hT3, hG3⟩; have H3 := Aside0.mk hT3; have HG := Aside0.mk hG3; clear hT3 hG3)
              | (go_at_call 16; refine (t_len HX.out).mono ?_; rintro e w9 ⟨rfl, h9⟩; have h8 := h9.symm; subst h8; clear h9))
            go_roundg (ops.length - i)
            case measure => have := hi.2; have := CI.out; omega
            case rel => exact ⟨next + 1, i + 1, n2 + 1, by first | rfl | (show Value.int .i64 (wrap64 ((next : Int) + 1)) = _; rw [zn]), by first | rfl | (show Value.int .i64 (wrap64 ((i : Int) + 1)) = _; rw [zi]), ⟨by have := CI.out; omega, by have := CI.out; omega⟩, ⟨H4.out.free⟩⟩
        · have HR := Go.Lib.hid cr
          have hr : decide ((n2 : Int) < n) = false := decide_eq_false cr
          clear cr
          rcases q0 with q0 | ⟨q0, q1⟩
          all_goals
            go_wp2_with (first
              | (go_at_call 17; refine (t_put_full HX.out (by have := HR.out; omega) x1 x2).mono ?_; rintro e w3 ⟨rfl, hT3⟩; have H3 := Aside0.mk hT3; clear hT3)
              | (go_at_call 16; refine (t_len HX.out).mono ?_; rintro e w9 ⟨rfl, h9⟩; have h8 := h9.symm; subst h8; clear h9))
            go_roundg (ops.length - i)
            case measure => have := hi.2; have := CI.out; omega
            case rel => exact ⟨next, i + 1, n2, by first | rfl | (show Value.int .i64 (wrap64 ((next : Int) + 1)) = _; rw [zn]), by first | rfl | (show Value.int .i64 (wrap64 ((i : Int) + 1)) = _; rw [zi]), ⟨by have := CI.out; omega, by have := CI.out; omega⟩, ⟨H3.out.free.later (Nat.le_succ _)⟩⟩
      · by_cases k2 : kc = 2
        · have q0 : (kc == 0) = false := by rw [k2]; rfl
          have q1 : (kc == 1) = false := by rw [k2]; rfl
          have q2 : (kc == 2) = true := by rw [k2]; rfl
          clear k01 hk k2
          by_cases cn : 0 < n2
          · have HR := Go.Lib.hid cn
            have hr : decide (0 < (n2 : Int)) = true := decide_eq_true (by omega)
            clear cn
            go_wp2_with (first
              | (go_at_call 18; refine HG.out.mono ?_; rintro e w4 ⟨rfl, hB4⟩; have H4 := Aside0.mk (H3.out.below hB4); clear hB4)
              | (go_at_call 19; refine (t_pop HX.out HBD.out.2 HR.out).mono ?_; rintro e w3 ⟨pk, pv, pt, rfl, p0, p1, ⟨n3, hT3⟩, hG3⟩; have H3 := Aside0.mk hT3; have HG := Aside0.mk hG3; have p0' : decide (pt < 0) = false := decide_eq_false (by omega); have p1' : decide ((next : Int) ≤ pt) = false := decide_eq_false (by omega); clear hT3 hG3 p0 p1)
              | (go_at_call 16; refine (t_len HX.out).mono ?_; rintro e w9 ⟨rfl, h9⟩; have h8 := h9.symm; subst h8; clear h9))
            go_roundg (ops.length - i)
            case measure => have := hi.2; have := CI.out; omega
            case rel => exact ⟨next, i + 1, n3, by first | rfl | (show Value.int .i64 (wrap64 ((next : Int) + 1)) = _; rw [zn]), by first | rfl | (show Value.int .i64 (wrap64 ((i : Int) + 1)) = _; rw [zi]), ⟨by have := CI.out; omega, by have := CI.out; omega⟩, ⟨H4.out.free.later (Nat.le_succ _)⟩⟩
          · obtain rfl : n2 = 0 := by omega
            have hr : decide (0 < ((0 : Nat) : Int)) = false := rfl
            clear cn
            go_wp2_with (first
              | (go_at_call 18; refine (t_get_none H3.out).mono ?_; rintro e w4 ⟨rfl, hT4⟩; have H4 := Aside0.mk hT4; clear hT4)
              | (go_at_call 19; refine (t_pop_none HX.out).mono ?_; rintro e w3 ⟨rfl, hT3⟩; have H3 := Aside0.mk hT3; clear hT3)
              | (go_at_call 16; refine (t_len HX.out).mono ?_; rintro e w9 ⟨rfl, h9⟩; have h8 := h9.symm; subst h8; clear h9))
            go_roundg (ops.length - i)
            case measure => have := hi.2; have := CI.out; omega
            case rel => exact ⟨next, i + 1, 0, by first | rfl | (show Value.int .i64 (wrap64 ((next : Int) + 1)) = _; rw [zn]), by first | rfl | (show Value.int .i64 (wrap64 ((i : Int) + 1)) = _; rw [zi]), ⟨by have := CI.out; omega, by have := CI.out; omega⟩, ⟨H4.out.free.later (Nat.le_succ _)⟩⟩
        · by_cases k3 : kc = 3
          · have q0 : (kc == 0) = false := by rw [k3]; rfl
            have q1 : (kc == 1) = false := by rw [k3]; rfl
            have q2 : (kc == 2) = false := by rw [k3]; rfl
            have q3 : (kc == 3) = true := by rw [k3]; rfl
            clear k01 hk k2 k3
            go_wp2_with (go_at_call 20; refine (t_clear HX.out).mono ?_; rintro e w3 ⟨rfl, n3, hT3⟩; have H3 := Aside0.mk hT3; clear hT3)
            go_roundg (ops.length - i)
            case measure => have := hi.2; have := CI.out; omega
            case rel => exact ⟨next, i + 1, n3, by first | rfl | (show Value.int .i64 (wrap64 ((next : Int) + 1)) = _; rw [zn]), by first | rfl | (show Value.int .i64 (wrap64 ((i : Int) + 1)) = _; rw [zi]), ⟨by have := CI.out; omega, by have := CI.out; omega⟩, ⟨H3.out.free.later (Nat.le_succ _)⟩⟩
          · obtain rfl : kc = 4 := by omega
            obtain ⟨k4, hk4⟩ : ∃ k : Int, k = 4 := ⟨4, rfl⟩
            rw [← hk4]
            have q0 : (k4 == 0) = false := by rw [hk4]; rfl
            have q1 : (k4 == 1) = false := by rw [hk4]; rfl
            have q2 : (k4 == 2) = false := by rw [hk4]; rfl
            have q3 : (k4 == 3) = false := by rw [hk4]; rfl
            clear k01 hk k2 k3 hk4
            go_wp2_with (first
              | (go_at_call 21; refine (t_remove H3.out HBD.out.2 x3 HT3.out).mono ?_; rintro e w4 ⟨rv, rok, rfl, n3, hT4⟩; have H4 := Aside0.mk hT4; clear hT4)
              | (go_at_call 18; refine (t_get_next HX.out HBD.out.2).mono ?_; rintro e w3 ⟨rfl, hT3⟩; have H3 := Aside0.mk hT3; obtain ⟨d1, d2, d3⟩ := HBX.out _ (hT3.box _ rfl); clear hT3))
            go_roundg (ops.length - i)
            case measure => have := hi.2; have := CI.out; omega
            case rel => exact ⟨next, i + 1, n3, by first | rfl | (show Value.int .i64 (wrap64 ((next : Int) + 1)) = _; rw [zn]), by first | rfl | (show Value.int .i64 (wrap64 ((i : Int) + 1)) = _; rw [zi]), ⟨by have := CI.out; omega, by have := CI.out; omega⟩, ⟨H4.out.free.later (Nat.le_succ _)⟩⟩
    · have z1 : decide ((i : Int) < (ops.length : Int)) = false := decide_eq_false (by omega)
      have z2 : decide (i < ops.length) = false := decide_eq_false ci
      have hbd := H1.out.bounds
      have zA : decide ((0 : Int) ≤ (n2 : Int)) = true := decide_eq_true (by omega)
      have zB : decide ((n2 : Int) ≤ n) = true := decide_eq_true (by omega)
      clear hbd
      go_wp2_with (go_at_call 16; refine (t_len H1.out).mono ?_; rintro e w9 ⟨rfl, h9⟩; have h8 := h9.symm; subst h8; clear h9)
      go_ret
      exact ⟨rfl, H1.out.bel⟩
set_option maxRecDepth 100000 in
set_option maxHeartbeats 1000000 in
theorem tickets_no (n : Int) (hn : n < 1 ∨ 65536 < n) (v : Value) (w : World) :
    Calls Try.prog 4 #[.int .i64 n, v] w fun e w' => e = .returned (.bool true) ∧ Below w.heap.size w w' := by
  have hz : (decide (n < 1) = true) ∨ (decide (n < 1) = false ∧ decide (65536 < n) = true) := by
    by_cases c : n < 1
    · exact .inl (decide_eq_true c)
    · exact .inr ⟨decide_eq_false c, decide_eq_true (by omega)⟩
  have HN := Go.Lib.hid hn
  have nilp : ∀ w, (binOp .eql 36 (.pointer none) (.pointer none)).run Try.prog w = .ok (.bool true) w := fun w => by kernel_rfl
  clear hn
  go_enter Try.func4, Try.ntmps4
  rcases hz with h1 | ⟨h1, h2⟩
  all_goals
    go_wp2_with (first
      | (go_at_call 14; refine (new_no n HN.out w1).mono ?_; rintro e w9 ⟨rfl, h9⟩; have h8 := h9.symm; subst h8; clear h9)
      | (go_at_call 8; refine (awake_calls w).mono ?_; rintro e w1 ⟨rfl, hB1⟩; have HB1 := Aside0.mk hB1; clear hB1))
    go_ret
    exact ⟨rfl, HB1.out⟩
theorem tickets_calls (n : Int) (A : Option Addr) (c : Nat) (ops : List (Int × Int × ByteArray × Int)) (w : World) (hO : OpRow w A ops) (hT : ∀ j, j < ops.length → -9223372036854775808 ≤ (ops.getD j (0, 0, ByteArray.empty, 0)).2.2.2 ∧ (ops.getD j (0, 0, ByteArray.empty, 0)).2.2.2 ≤ 9223372036854775807) (hl : ops.length ≤ 4611686018427387000) :
    Calls Try.prog 4 #[.int .i64 n, .slice A ops.length c] w fun e w' => e = .returned (.bool true) ∧ Below w.heap.size w w' := by
  by_cases h : 1 ≤ n ∧ n ≤ 65536
  · exact tickets_yes n h A c ops w hO hT hl
  · exact tickets_no n (by omega) _ w
end Go.Proofs.Ytgolghimefageaa.QT
