/- QueueSorts: the law's walk (the other end). Written by mksort.py. -/
import Derived.Test.YtgolghimefageaaQSort2
namespace Go.Proofs.Ytgolghimefageaa.QS
set_option linter.unusedVariables false
open Go.Proofs Go.RowKit Go.Shelf Go.Lib Go.Maps Go.Proofs.YtgolghimefageaaW.PrintWords Go.Proofs.YtgolghimefageaaW.PrintLast Go.Proofs.YtgolghimefageaaW.PrintMore Go.Proofs.Ytgolghimefageaa.St
set_option maxRecDepth 100000 in
set_option maxHeartbeats 8000000 in
theorem sorts_last (A : Option Addr) (c : Nat) (keys : List ByteArray) (w : World) (hO : KeyRow w A keys.length keys) (hl : keys.length ≤ 65536) :
    Calls Try.prog 3 #[.slice A keys.length c, .bool true] w fun e w' => e = .returned (.bool true) ∧ Below w.heap.size w w' := by
  obtain ⟨m, hm⟩ : ∃ m : Nat, m = keys.length := ⟨_, rfl⟩
  have HO := Aside0.mk hO
  have HM := Go.Lib.hid (And.intro hm hl)
  have mk := mk_bools m (by omega)
  have hz0 : decide (65536 < (m : Int)) = false := decide_eq_false (by omega)
  rw [← hm]
  clear hO hl hm
  go_enter Try.func3, Try.ntmps3
  go_wp2_with (first
    | (go_at_call 8; refine (QT.awake_calls w1).mono ?_; rintro e w2 ⟨rfl, hB2⟩; have H2 := Aside0.mk (H1.out.below hB2); clear hB2)
    | (go_at_call 7; refine (new_calls 65536 (by omega) w).mono ?_; rintro e w1 ⟨b, mb, rfl, hQ, hB⟩; have H1 := Aside0.mk (show SSt w w1 b keys 0 [] 0 none from ⟨_, _, mb, 0, hQ.tight, fun k hk => hk.2, (fun x hx => by cases hx), Nat.le_refl _, Nat.zero_le _, Nat.le_refl _, HM.out.2, (fun x hx => by cases hx), hB⟩); clear hQ hB; have eqq := eqp ⟨b, 0, none⟩))
  go_loopg [43] (m + 1) (fun kx s43 wr => ∃ (i : Nat) (E : List El), s43 = .int .i64 (i : Int) ∧ Hid (i ≤ m ∧ m < i + kx ∧ E.length = i) ∧ Aside0 (SSt w wr b keys i E 0 none))
  case atStart => exact ⟨0, [], rfl, ⟨Nat.zero_le _, by omega, rfl⟩, H2⟩
  case round =>
    clear H1 H2
    obtain ⟨i, E, rfl, hi, H1⟩ := hrel
    by_cases ci : i < m
    · obtain ⟨ad, hA, h0⟩ := (HO.out.kept H1.out.bel) i (by have := HM.out; omega)
      cases hA
      obtain ⟨x0, e0⟩ : ∃ x, x = keys.getD i ByteArray.empty := ⟨_, rfl⟩
      rw [← e0] at h0
      have HE0 := Go.Lib.hid e0
      have z1 : decide ((i : Int) < (m : Int)) = true := decide_eq_true (by omega)
      have z3 : 0 ≤ (i : Int) := by omega
      have z4 : (i : Int) < (m : Int) := by omega
      have zi : wrap64 ((i : Int) + 1) = ((i + 1 : Nat) : Int) := by have := HM.out; unfold wrap64; omega
      have CI := Go.Lib.hid ci
      clear e0 ci
      go_wp2_with (go_at_call 9; refine (s_put H1.out (by have := HM.out; have := CI.out; omega) x0 HE0.out).mono ?_; rintro e w3 ⟨rfl, E3, hE3, hT3⟩; have H3 := Aside0.mk (And.intro hE3 hT3); clear hT3 hE3)
      go_roundg (m - i)
      case measure => have := hi.2; have := CI.out; omega
      case rel => exact ⟨i + 1, E3, by first | rfl | (show Value.int .i64 (wrap64 ((i : Int) + 1)) = _; rw [zi]), ⟨by have := CI.out; omega, by have := CI.out; omega, by have := H3.out.1; have := hi.2.2; omega⟩, ⟨H3.out.2⟩⟩
    · obtain rfl : i = m := by have := hi.1; omega
      have z1 : decide ((i : Int) < (i : Int)) = false := decide_eq_false (by omega)
      have z2 : decide (i < i) = false := decide_eq_false (by omega)
      have HS : Aside0 (SSt w (wr.alloc (.cells (madeCells #[.bool false] i) 4)) b keys i E wr.heap.size (some (.cells (madeCells #[.bool false] i) 4 (0, 0))) ∧ Seen (madeCells #[.bool false] i) i E ∧ E.length = i ∧ w.heap.size ≤ wr.heap.size) := ⟨H1.out.boxed _, Seen.made i E (fun x hx => by have h := H1.out.nice x hx; have := h.lo; have := h.hi; have := HM.out; omega), hi.2.2, H1.out.bel.size⟩
      obtain ⟨B, hB⟩ : ∃ B, B = wr.heap.size := ⟨_, rfl⟩
      rw [← hB] at HS
      clear H1 ci hi
      obtain ⟨S0, hS0⟩ : ∃ S0, S0 = madeCells #[.bool false] i := ⟨_, rfl⟩
      obtain ⟨W1, hW1⟩ : ∃ W1, W1 = wr.alloc (.cells (madeCells #[.bool false] i) 4) := ⟨_, rfl⟩
      rw [← hW1, ← hS0] at HS
      go_wp2_with fail
      rw [← hB, ← hW1]
      clear hB hW1 hS0 mk
      go_loopg [12, 13, 68] (i + 1) (fun kx s12 s13 s68 ws => ∃ (j : Nat) (E : List El) (S : Array Value) (was : ByteArray) (at_ : Int), s12 = .string was ∧ s13 = .int .i64 at_ ∧ s68 = .int .i64 (j : Int) ∧ Hid (j ≤ i ∧ i < j + kx ∧ E.length + j = i) ∧ Aside0 (SSt w ws b keys i E B (some (.cells S 4 (0, 0))) ∧ Seen S i E ∧ WasL E was at_ ∧ w.heap.size ≤ B))
      case atStart => exact ⟨0, E, S0, ByteArray.empty, -1, rfl, rfl, rfl, ⟨Nat.zero_le _, by omega, by have := HS.out.2.2.1; omega⟩, ⟨HS.out.1, HS.out.2.1, .inl rfl, HS.out.2.2.2⟩⟩
      case round =>
        clear HS E S0 W1
        obtain ⟨j, E, S, was, at_, rfl, rfl, rfl, hj, HS⟩ := hrel
        by_cases cj : j < i
        · have hE0 : 0 < E.length := by have := hj.2.2; omega
          have HE0 := Go.Lib.hid hE0
          obtain ⟨ii, hii⟩ : ∃ ii, ii = E.length - 1 := ⟨_, rfl⟩
          have hmem : E[ii]! ∈ E := by rw [getElem!_pos E ii (by omega)]; exact List.getElem_mem (by omega)
          have hni := HS.out.1.nice _ hmem
          obtain ⟨x, hx⟩ : ∃ x, x = E[ii]! := ⟨_, rfl⟩
          obtain ⟨t, ht⟩ : ∃ t : Nat, t = E[ii]!.ticket.toNat := ⟨_, rfl⟩
          have hxt : x.ticket = (t : Int) := by have := hni.lo; rw [hx]; omega
          have hxv : x.v = (t : Int) := by rw [hx, hni.v, ← hx, hxt]
          have hxc : x.came = x.v := by rw [hx, hni.came, hni.v]
          have hlt : t < i := by have h1 := hni.hi; rw [← hx, hxt] at h1; have := HM.out; omega
          have hxk : x.k = keys.getD t ByteArray.empty := by rw [hx, hni.key, ht]
          have htest := WasL.test HS.out.2.2.1 (hx ▸ hmem) hxc
          have hsf : S[t]? = some (.bool false) := by rw [ht]; exact HS.out.2.1.free _ hmem
          have HX := Aside0.mk (And.intro hx (And.intro ht (And.intro hii (And.intro hxt (And.intro hxv hxc)))))
          obtain ⟨ad, hA, h0⟩ := (HO.out.kept HS.out.1.bel) t (by have := HM.out; omega)
          cases hA
          obtain ⟨k, hk⟩ : ∃ k, k = x.k := ⟨_, rfl⟩
          rw [← hk] at htest
          have HKY := Go.Lib.hid (And.intro hk hxk)
          have zt0 : decide ((t : Int) < 0) = false := decide_eq_false (by omega)
          have zt1 : decide ((i : Int) ≤ (t : Int)) = false := decide_eq_false (by omega)
          have zt2 : (0 : Int) ≤ (t : Int) := by omega
          have zt3 : (t : Int) < (i : Int) := by omega
          have zj : decide ((j : Int) < (i : Int)) = true := decide_eq_true (by omega)
          have zjj : wrap64 ((j : Int) + 1) = ((j + 1 : Nat) : Int) := by have := HM.out; unfold wrap64; omega
          have kk : (k.toList == k.toList) = true := beq_self_eq_true _
          have HCJ := Go.Lib.hid cj
          have HTT := Go.Lib.hid hlt
          have hkeys : Aside0 (∀ W2, Below w.heap.size w W2 → W2.cell? (ad.add t) = some (.string k)) := ⟨fun W2 hB2 => by
            obtain ⟨ad2, hA2, h2⟩ := (HO.out.kept hB2) t (by have := HM.out; omega)
            cases hA2
            rw [HKY.out.1, HKY.out.2]
            exact h2⟩
          have hseen : Aside0 (∀ W2 : World, W2.heap[B]? = some (Obj.cells S 4 (0, 0)) → W2.cell? ⟨B, t, none⟩ = some (.bool false) ∧ W2.frozen? ⟨B, t, none⟩ = false) := ⟨fun W2 h => ⟨cells_at h t _ hsf, frozen_at h t⟩⟩
          have hpop : Aside0 (∀ W2, SSt w W2 b keys i E B (some (.cells S 4 (0, 0))) → Calls Try.prog 11 #[.pointer (some ⟨b, 0, none⟩)] W2 fun e w' => e = .returned (.tuple #[.string k, .int .i64 (t : Int), .int .i64 (t : Int), .bool true]) ∧ SSt w w' b keys i (E.eraseIdx ii) B (some (.cells S 4 (0, 0)))) := ⟨fun W2 h2 => by
            have hp := s_poplasti ii HX.out.2.2.1 h2 HE0.out
            rw [← HX.out.1, HX.out.2.2.2.2.1, HX.out.2.2.2.1, ← HKY.out.1] at hp
            exact hp⟩
          clear h0 hmem hni hx ht hii hxt hxv hxc hxk hsf hk hlt cj hE0
          rcases htest with c1 | ⟨c1, c2, c3 | ⟨c3, c4⟩⟩
          · have q1 : decide (0 ≤ at_) = false := decide_eq_false (by omega)
            clear c1
            go_wp2_with (first
              | (go_at_call 11; refine (hpop.out _ H2.out).mono ?_; rintro e w3 ⟨rfl, hT3⟩; have H3 := Aside0.mk hT3; have k3 := hkeys.out w3 hT3.bel; obtain ⟨s3, f3⟩ := hseen.out w3 (hT3.box _ rfl); clear hT3)
              | (go_at_call 10; refine (s_first HS.out.1 HE0.out).mono ?_; rintro e w2 ⟨⟨fk, fv, ft, rfl⟩, hT2⟩; have H2 := Aside0.mk hT2; clear hT2))
            go_roundg (i - j)
            case measure => have := hj.2; have := HCJ.out; omega
            case rel =>
              have hx := HX.out
              have hg := HS.out.1.good
              have hii : ii < E.length := by have := HE0.out; have := hx.2.2.1; omega
              have hmem : E[ii]! ∈ E := by rw [getElem!_pos E ii hii]; exact List.getElem_mem hii
              have hni := HS.out.1.nice _ hmem
              have hWas := WasL.next_i ii hx.2.2.1 hg.1 HE0.out (by rw [← hx.1]; exact hx.2.2.2.2.2) (by rw [← hx.1, hx.2.2.2.2.1]; omega)
              rw [← hx.1, hx.2.2.2.2.1, ← HKY.out.1] at hWas
              have hSeen := HS.out.2.1.mark ii hii hg.2 (fun y hy => (HS.out.1.nice y hy).lo)
              rw [← hx.2.1] at hSeen
              exact ⟨j + 1, E.eraseIdx ii, S.setIfInBounds t (.bool true), k, (t : Int), rfl, rfl, by first | rfl | (show Value.int .i64 (wrap64 ((j : Int) + 1)) = _; rw [zjj]), ⟨by have := HCJ.out; omega, by have := HCJ.out; omega, by rw [erase_len E ii hii]; have := hj.2.2; omega⟩, ⟨H3.out.marks HS.out.2.2.2 t (.bool true), hSeen, hWas, HS.out.2.2.2⟩⟩
          · have q1 : decide (0 ≤ at_) = true := decide_eq_true (by omega)
            have q3 : ∀ w2, (binOp .gtr 9 (.string k) (.string was)).run Try.prog w2 = .ok (.bool false) w2 := fun w2 => by rw [gtr_s, c2]
            clear c1
            go_wp2_with (first
              | (go_at_call 11; refine (hpop.out _ H2.out).mono ?_; rintro e w3 ⟨rfl, hT3⟩; have H3 := Aside0.mk hT3; have k3 := hkeys.out w3 hT3.bel; obtain ⟨s3, f3⟩ := hseen.out w3 (hT3.box _ rfl); clear hT3)
              | (go_at_call 10; refine (s_first HS.out.1 HE0.out).mono ?_; rintro e w2 ⟨⟨fk, fv, ft, rfl⟩, hT2⟩; have H2 := Aside0.mk hT2; clear hT2))
            go_roundg (i - j)
            case measure => have := hj.2; have := HCJ.out; omega
            case rel =>
              have hx := HX.out
              have hg := HS.out.1.good
              have hii : ii < E.length := by have := HE0.out; have := hx.2.2.1; omega
              have hmem : E[ii]! ∈ E := by rw [getElem!_pos E ii hii]; exact List.getElem_mem hii
              have hni := HS.out.1.nice _ hmem
              have hWas := WasL.next_i ii hx.2.2.1 hg.1 HE0.out (by rw [← hx.1]; exact hx.2.2.2.2.2) (by rw [← hx.1, hx.2.2.2.2.1]; omega)
              rw [← hx.1, hx.2.2.2.2.1, ← HKY.out.1] at hWas
              have hSeen := HS.out.2.1.mark ii hii hg.2 (fun y hy => (HS.out.1.nice y hy).lo)
              rw [← hx.2.1] at hSeen
              exact ⟨j + 1, E.eraseIdx ii, S.setIfInBounds t (.bool true), k, (t : Int), rfl, rfl, by first | rfl | (show Value.int .i64 (wrap64 ((j : Int) + 1)) = _; rw [zjj]), ⟨by have := HCJ.out; omega, by have := HCJ.out; omega, by rw [erase_len E ii hii]; have := hj.2.2; omega⟩, ⟨H3.out.marks HS.out.2.2.2 t (.bool true), hSeen, hWas, HS.out.2.2.2⟩⟩
          · have q1 : decide (0 ≤ at_) = true := decide_eq_true (by omega)
            have q4 : decide (at_ < (t : Int)) = false := decide_eq_false (by have := HX.out.2.2.2.2.1; omega)
            have q3 : ∀ w2, (binOp .gtr 9 (.string k) (.string was)).run Try.prog w2 = .ok (.bool false) w2 := fun w2 => by rw [gtr_s, c2]
            clear c1 c4
            go_wp2_with (first
              | (go_at_call 11; refine (hpop.out _ H2.out).mono ?_; rintro e w3 ⟨rfl, hT3⟩; have H3 := Aside0.mk hT3; have k3 := hkeys.out w3 hT3.bel; obtain ⟨s3, f3⟩ := hseen.out w3 (hT3.box _ rfl); clear hT3)
              | (go_at_call 10; refine (s_first HS.out.1 HE0.out).mono ?_; rintro e w2 ⟨⟨fk, fv, ft, rfl⟩, hT2⟩; have H2 := Aside0.mk hT2; clear hT2))
            go_roundg (i - j)
            case measure => have := hj.2; have := HCJ.out; omega
            case rel =>
              have hx := HX.out
              have hg := HS.out.1.good
              have hii : ii < E.length := by have := HE0.out; have := hx.2.2.1; omega
              have hmem : E[ii]! ∈ E := by rw [getElem!_pos E ii hii]; exact List.getElem_mem hii
              have hni := HS.out.1.nice _ hmem
              have hWas := WasL.next_i ii hx.2.2.1 hg.1 HE0.out (by rw [← hx.1]; exact hx.2.2.2.2.2) (by rw [← hx.1, hx.2.2.2.2.1]; omega)
              rw [← hx.1, hx.2.2.2.2.1, ← HKY.out.1] at hWas
              have hSeen := HS.out.2.1.mark ii hii hg.2 (fun y hy => (HS.out.1.nice y hy).lo)
              rw [← hx.2.1] at hSeen
              exact ⟨j + 1, E.eraseIdx ii, S.setIfInBounds t (.bool true), k, (t : Int), rfl, rfl, by first | rfl | (show Value.int .i64 (wrap64 ((j : Int) + 1)) = _; rw [zjj]), ⟨by have := HCJ.out; omega, by have := HCJ.out; omega, by rw [erase_len E ii hii]; have := hj.2.2; omega⟩, ⟨H3.out.marks HS.out.2.2.2 t (.bool true), hSeen, hWas, HS.out.2.2.2⟩⟩
        · obtain rfl : j = i := by have := hj.1; omega
          have hEl : E.length = 0 := by have := hj.2.2; omega
          obtain rfl := List.length_eq_zero_iff.1 hEl
          have z5 : decide ((j : Int) < (j : Int)) = false := decide_eq_false (by omega)
          have z6 : decide (j < j) = false := decide_eq_false (by omega)
          clear hEl hj cj
          have hlen0 : Aside0 (∀ W2, SSt w W2 b keys j [] B (some (.cells S 4 (0, 0))) → Calls Try.prog 13 #[.pointer (some ⟨b, 0, none⟩)] W2 fun e w' => e = .returned (.int .i64 0) ∧ w' = W2) := ⟨fun W2 h2 => s_len h2⟩
          go_wp2_with (first
            | (go_at_call 13; refine (hlen0.out _ H3.out).mono ?_; rintro e w9 ⟨rfl, h9⟩; have h8 := h9.symm; subst h8; clear h9)
            | (go_at_call 12; refine (s_pop_none HS.out.1).mono ?_; rintro e w3 ⟨rfl, hT3⟩; have H3 := Aside0.mk hT3; clear hT3))
          go_ret
          exact ⟨rfl, H3.out.bel⟩
end Go.Proofs.Ytgolghimefageaa.QS
