/- ActChooses: the law's walk. -/
import Derived.Deep.RegionHeld3
import Derived.Test.YtjcfhgpaipbedaaCh5
import Derived.Test.YtjcfhgpaipbedaaCh7
import Derived.Test.YtjcfhgpaipbedaaA4
import Derived.Test.YtjcfhgpaipbedaaA5
import Derived.Test.YtjcfhgpaipbedaaA13
namespace Go.Proofs.Ytjcfhgpaipbedaa.Ch
set_option linter.unusedVariables false
open Go.Proofs Go.Shelf Go.RowKit Go.Lib Go.Sort Go.Proofs.YtjcfhgpaipbedaaW.PrintWords Go.Proofs.YtjcfhgpaipbedaaW.PrintLast Go.Proofs.YtjcfhgpaipbedaaW.PrintMore Go.Proofs.Ytjcfhgpaipbedaa.A Go.Proofs.Ytjcfhgpaipbedaa.St Go.Proofs.Ytjcfhgpaipbedaa.Pure
attribute [local go_sem] Oper.semAt_some
theorem info8 : (Try.prog.info? 30).map (fun i => (i.zero, i.size, i.bytes)) = some (some (.int .i8 0), 1, 1) := by kernel_rfl
section
variable {w : World} {A0 A1 : Option Addr} {c0 c1 : Nat} {m : List Int}
theorem awake_c : Calls Try.prog 10 #[] w fun e w' => e = .returned (.bool true) ∧ Below w.heap.size w w' := by
  obtain ⟨K, hK⟩ := Pure.awake
  exact w12_awake.calls K _ w (hK K (Nat.le_refl _))
theorem same8_c (hr0 : Kd.C (Kd.int .i8) w A0 m.length m) (hc0 : m.length ≤ c0) (hr1 : Kd.C (Kd.int .i8) w A1 m.length m) (hc1 : m.length ≤ c1) (hl : m.length < 4611686018427387904) : Calls Try.prog 13 #[.slice A0 m.length c0, .slice A1 m.length c1] w fun e w' => e = .returned (.bool true) ∧ Below w.heap.size w w' := by
  obtain ⟨K, hK⟩ := same8 m hl
  refine (w12_same_int8.calls K A0 c0 m A1 c1 m _ w hr0 hc0 hr1 hc1 (hK K (Nat.le_refl _))).mono ?_
  rintro e w' ⟨rfl, h⟩
  exact ⟨rfl, h.below⟩
theorem same64_c (hr0 : Kd.C (Kd.int .i64) w A0 m.length m) (hc0 : m.length ≤ c0) (hr1 : Kd.C (Kd.int .i64) w A1 m.length m) (hc1 : m.length ≤ c1) (hl : m.length < 4611686018427387904) : Calls Try.prog 20 #[.slice A0 m.length c0, .slice A1 m.length c1] w fun e w' => e = .returned (.bool true) ∧ Below w.heap.size w w' := by
  obtain ⟨K, hK⟩ := same64 m hl
  refine (w12_same_int64.calls K A0 c0 m A1 c1 m _ w hr0 hc0 hr1 hc1 (hK K (Nat.le_refl _))).mono ?_
  rintro e w' ⟨rfl, h⟩
  exact ⟨rfl, h.below⟩
end
/-- The box of the router. -/
structure Rx (w W : World) (u : Value) (s k : Int) : Prop where
  blk : W.heap[w.heap.size]? = some (.cells #[u, .int .i64 s, .int .i64 k] 51 (0, 0))
  bel : Below w.heap.size w W
section
variable {w W W' : World} {u : Value} {s k : Int}
theorem Rx.c0 (h : Rx w W u s k) : W.cell? ⟨w.heap.size, 0, none⟩ = some u := cells_at h.blk 0 _ rfl
theorem Rx.c1 (h : Rx w W u s k) : W.cell? ⟨w.heap.size, 1, none⟩ = some (.int .i64 s) := cells_at h.blk 1 _ rfl
theorem Rx.c2 (h : Rx w W u s k) : W.cell? ⟨w.heap.size, 2, none⟩ = some (.int .i64 k) := cells_at h.blk 2 _ rfl
theorem Rx.lt (h : Rx w W u s k) : w.heap.size < W.heap.size := (Array.getElem?_eq_some_iff.1 h.blk).1
theorem Rx.kept (h : Rx w W u s k) (hB : Below W.heap.size W W') : Rx w W' u s k := ⟨(hB.block _ h.lt).trans h.blk, h.bel.trans (hB.mono h.bel.size)⟩
end
theorem nil8 (W : World) : Kd.N (Kd.int .i8) 30 (W.alloc (.cells #[] 30)) W.heap.size (fun _ => True) (.slice (some ⟨W.heap.size, 0, none⟩) 0 0) [] :=
  Kd.R_N ⟨fun _ _ => trivial, [], ⟨rfl, .inr ⟨W.heap.size, 0, #[], rfl, Nat.le_refl _, heap_alloc_new W _, Nat.le_refl _, Nat.zero_le _, by simp, by simp⟩⟩, Reps.none _ _⟩
/-- What the chosen are, as the law looks at them. -/
structure Chosen (O P : List Int) (E : Int) : Prop where
  len : P.length ≤ 1048576
  lenO : O.length = P.length
  bad : E ≠ 0 → O = []
  apart : ∀ i j : Nat, i < j → j < O.length → O.getD i 0 ≠ O.getD j 0
  fit : E = 0 → Fit P


set_option maxRecDepth 100000 in
set_option maxHeartbeats 1000000 in
theorem chooses_calls (A0 : Option Addr) (c0 : Nat) (r : List Int) (s k : Int) (A1 : Option Addr) (c1 : Nat) (h : List Int) (w : World) (hr0 : Kd.C (Kd.int .i8) w A0 r.length r) (hc0 : r.length ≤ c0) (hr1 : Kd.C (Kd.int .i8) w A1 h.length h) (hc1 : h.length ≤ c1) (hl0 : r.length * 1 ≤ 140737488351232) (hl1 : h.length * 1 ≤ 140737488351232) {O P : List Int} {E : Int} (hE : chooseL r h s k = (O, P, E)) (hF : Chosen O P E) :
    Calls Try.prog 8 #[.agg #[.slice A0 r.length c0, .int .i64 s, .int .i64 k], .slice A1 h.length c1] w fun e w' => e = .returned (.bool true) ∧ Below w.heap.size w w' := by
  have HR0 := Aside0.mk (fun W (hB : Below w.heap.size w W) => And.intro (Kd.C_below hr0 hB) hc0)
  have HR1 := Aside0.mk (fun W (hB : Below w.heap.size w W) => And.intro (Kd.C_below hr1 hB) hc1)
  have HF0 := Aside0.mk (fun W (hB : Below w.heap.size w W) => (Kd.F_below (Kd.C_F (Kd.heap_int .i8) hr0) hB : Kd.F (Kd.int .i8) W (fun k_ => k_ < w.heap.size) A0 r.length r))
  have HF1 := Aside0.mk (fun W (hB : Below w.heap.size w W) => (Kd.F_below (Kd.C_F (Kd.heap_int .i8) hr1) hB : Kd.F (Kd.int .i8) W (fun k_ => k_ < w.heap.size) A1 h.length h))
  have HE := Aside0.mk hE
  have HF := Aside0.mk hF
  have HL := Go.Lib.hid (And.intro hl0 hl1)
  clear hr0 hc0 hr1 hc1 hE hF hl0 hl1
  go_enter Try.func8, Try.ntmps8
  obtain ⟨W0, hW0⟩ : ∃ W0, W0 = w.alloc (.cells #[.slice A0 r.length c0, .int .i64 s, .int .i64 k] 51) := ⟨_, rfl⟩
  have B0 : Aside0 (Rx w W0 (.slice A0 r.length c0) s k) := ⟨⟨by rw [hW0]; exact heap_alloc_new w _, by rw [hW0]; exact below_alloc (Below.refl _ w) _⟩⟩
  go_wp2_with (first
    | (go_at_call 10; rw [← hW0]; refine awake_c.mono ?_; rintro e w1 ⟨rfl, hB1⟩; have B1 := Aside0.mk (B0.out.kept hB1); have f0 := (B1.out.kept (below_alloc (Below.refl _ w1) (.cells #[] 30))).c0; have b0 := B1.out.c0; have b1 := B1.out.c1; have b2 := B1.out.c2; clear hB1)
    | (at_builtin; (refine Kd.N_append_rows (Kd.int .i8) (w0 := w1) w1.heap.size rfl (.tmp 18) (.tmp 20) 23 30 _ 1 rfl Try.underlying23 info8 rfl (by decide) (by omega) (.slice (some ⟨w1.heap.size, 0, none⟩) 0 0) [] r _ _ _ (fun _ => True) (fun k_ => k_ < w.heap.size) rfl rfl (nil8 w1) (HF0.out _ (below_alloc B1.out.bel _)) (fun k_ hk => ⟨trivial, fun e => by injection e with e; have h1 : k_ = w1.heap.size := e; have h2 := B1.out.bel.size; omega⟩) (fun _ _ => trivial) (below_alloc (Below.refl _ w1) _) (below_alloc (Below.refl _ w1) _).size (by have := HL.out; rw [List.length_nil]; omega) ?_); intro v2 w2 hn2 hb2 hg2 hat2; rw [List.nil_append] at hn2; obtain ⟨A2, c2, rfl⟩ := Kd.N_slice hn2; have N2 := Aside0.mk (Kd.N_reads' hn2).2; have B2 := Aside0.mk (B1.out.kept hb2); have K2 := Aside0.mk hb2; have b0 := B2.out.c0; have b1 := B2.out.c1; have b2 := B2.out.c2; clear hn2 hb2 hg2 hat2)
    | (at_builtin; (refine Kd.N_append_rows (Kd.int .i8) (w0 := w2) w2.heap.size rfl (.tmp 22) (.tmp 23) 23 30 _ 1 rfl Try.underlying23 info8 rfl (by decide) (by omega) (.slice (some ⟨w2.heap.size, 0, none⟩) 0 0) [] h _ _ _ (fun _ => True) (fun k_ => k_ < w.heap.size) rfl rfl (nil8 w2) (HF1.out _ (below_alloc B2.out.bel _)) (fun k_ hk => ⟨trivial, fun e => by injection e with e; have h1 : k_ = w2.heap.size := e; have h2 := B2.out.bel.size; omega⟩) (fun _ _ => trivial) (below_alloc (Below.refl _ w2) _) (below_alloc (Below.refl _ w2) _).size (by have := HL.out; rw [List.length_nil]; omega) ?_); intro v3 w3 hn3 hb3 hg3 hat3; rw [List.nil_append] at hn3; obtain ⟨A3, c3, rfl⟩ := Kd.N_slice hn3; have N3 := Aside0.mk (Kd.N_reads' hn3).2; have B3 := Aside0.mk (B2.out.kept hb3); have K3 := Aside0.mk hb3; have b0 := B3.out.c0; have b1 := B3.out.c1; have b2 := B3.out.c2; clear hn3 hb3 hg3 hat3)
    | (go_at_call 22; refine (choose_calls A2 c2 r A3 c3 h s k w3 (Kd.C_below N2.out.2 K3.out) N2.out.1 N3.out.2 N3.out.1 HE.out).mono ?_; rintro e w4 ⟨v4, u4, rfl, ⟨A4, c4, rfl, hl4, hC4⟩, hR4, hB4⟩; obtain ⟨A5, c5, rfl⟩ := Kd.R_slice hR4; have B4 := Aside0.mk (B3.out.kept hB4); have R4 := Aside0.mk (And.intro (And.intro hl4 hC4) (Kd.R_reads' hR4).2); have K4 := Aside0.mk hB4; have b0 := B4.out.c0; have b1 := B4.out.c1; have b2 := B4.out.c2; clear hl4 hC4 hR4 hB4)
    | (go_at_call 23; refine (rchoose_calls A0 c0 r A1 c1 h s k w4 (HR0.out _ B4.out.bel).1 (HR0.out _ B4.out.bel).2 (HR1.out _ B4.out.bel).1 (HR1.out _ B4.out.bel).2 HE.out).mono ?_; rintro e w6 ⟨v6, u6, rfl, ⟨A6, c6, rfl, hl6, hC6⟩, hR6, hB6⟩; obtain ⟨A7, c7, rfl⟩ := Kd.R_slice hR6; have B6 := Aside0.mk (B4.out.kept hB6); have R6 := Aside0.mk (And.intro (And.intro hl6 hC6) (Kd.R_reads' hR6).2); have K6 := Aside0.mk hB6; have b0 := B6.out.c0; have b1 := B6.out.c1; have b2 := B6.out.c2; clear hl6 hC6 hR6 hB6))
  have C2 := Aside0.mk (And.intro N2.out.1 (Kd.C_below (Kd.C_below (Kd.C_below N2.out.2 K3.out) K4.out) K6.out))
  have C3 := Aside0.mk (And.intro N3.out.1 (Kd.C_below (Kd.C_below N3.out.2 K4.out) K6.out))
  have C4 := Aside0.mk (And.intro R4.out.1.1 (Kd.C_below R4.out.1.2 K6.out))
  have C5 := Aside0.mk (And.intro R4.out.2.1 (Kd.C_below R4.out.2.2 K6.out))
  refine (same64_c C5.out.2 C5.out.1 R6.out.2.2 R6.out.2.1 (by have := HF.out.len; omega)).mono ?_
  rintro e w7 ⟨rfl, hB7⟩
  have B7 := Aside0.mk (B6.out.kept hB7)
  have K7 := Aside0.mk hB7
  have C2 := Aside0.mk (And.intro C2.out.1 (Kd.C_below C2.out.2 hB7))
  have C3 := Aside0.mk (And.intro C3.out.1 (Kd.C_below C3.out.2 hB7))
  have C4 := Aside0.mk (And.intro C4.out.1 (Kd.C_below C4.out.2 hB7))
  have C5 := Aside0.mk (And.intro C5.out.1 (Kd.C_below C5.out.2 hB7))
  have C6 := Aside0.mk (And.intro R6.out.1.1 (Kd.C_below R6.out.1.2 hB7))
  have b0 := B7.out.c0
  clear hB7 K2 K3 K4 K6 K7 R4 R6 N2 N3 B1 B2 B3 B4 B6
  go_wp2_with (first
    | (go_at_call 13; refine (same8_c C3.out.2 C3.out.1 (HR1.out _ B8.out.bel).1 (HR1.out _ B8.out.bel).2 (by have := HL.out; omega)).mono ?_; rintro e w9 ⟨rfl, hB⟩; have B9 := Aside0.mk (B8.out.kept hB); have C4 := Aside0.mk (And.intro C4.out.1 (Kd.C_below C4.out.2 hB)); have C5 := Aside0.mk (And.intro C5.out.1 (Kd.C_below C5.out.2 hB)); have C6 := Aside0.mk (And.intro C6.out.1 (Kd.C_below C6.out.2 hB)); clear hB)
    | (go_at_call 13; refine (same8_c C2.out.2 C2.out.1 (HR0.out _ B7.out.bel).1 (HR0.out _ B7.out.bel).2 (by have := HL.out; omega)).mono ?_; rintro e w8 ⟨rfl, hB⟩; have B8 := Aside0.mk (B7.out.kept hB); have C3 := Aside0.mk (And.intro C3.out.1 (Kd.C_below C3.out.2 hB)); have C4 := Aside0.mk (And.intro C4.out.1 (Kd.C_below C4.out.2 hB)); have C5 := Aside0.mk (And.intro C5.out.1 (Kd.C_below C5.out.2 hB)); have C6 := Aside0.mk (And.intro C6.out.1 (Kd.C_below C6.out.2 hB)); clear hB))
  have R4 := Aside0.mk (reads_n C4.out.2)
  have R5 := Aside0.mk (reads_n C5.out.2)
  have R6 := Aside0.mk (reads_n C6.out.2)
  have HOP := Go.Lib.hid (And.intro HF.out.lenO HF.out.len)
  clear C2 C3 B7 B8
  go_loopg [13, 79] (O.length + 1) (fun kx s13 s79 wr => ∃ i : Nat, s13 = .int .i64 (P.take i).sum ∧ s79 = .int .i64 (i : Int) ∧ Hid (i ≤ O.length ∧ O.length < i + kx) ∧ Aside0 (Below w9.heap.size w9 wr))
  case atStart => exact ⟨0, by simp, rfl, ⟨by omega, by omega⟩, ⟨Below.refl _ _⟩⟩
  case round =>
    obtain ⟨i, rfl, rfl, hj, H1⟩ := hrel
    by_cases ci : i < O.length
    · have ci' : (i : Int) < (O.length : Int) := by omega
      have cip : (i : Int) < (P.length : Int) := by have := HOP.out.1; omega
      have FIT := Aside0.mk (show Fit P from HF.out.fit (by
        by_cases c : E = 0
        · exact c
        · have h1 := HF.out.bad c
          rw [h1] at ci
          simp at ci))
      have hlow := FIT.out.low i (by have := HOP.out.1; omega)
      obtain ⟨d4, rfl, a4⟩ := R4.out i ci
      obtain ⟨d5, rfl, a5⟩ := R5.out i (by have := HOP.out.1; omega)
      obtain ⟨d6, rfl, a6⟩ := R6.out i ci
      have up : ∀ (a : Addr) v, w9.cell? a = some v → wr.cell? a = some v := fun a v h => by
        have hl := World.block_lt_of_cell? w9 a h
        simpa [World.cell?, H1.out.block a.block hl] using h
      have u4 := up _ _ a4
      have u5 := up _ _ a5
      have u6 := up _ _ a6
      obtain ⟨o, ho⟩ : ∃ o, o = O.getD i 0 := ⟨_, rfl⟩
      obtain ⟨x, hx⟩ : ∃ x, x = P.getD i 0 := ⟨_, rfl⟩
      rw [← ho] at u4 u6
      rw [← hx] at u5 hlow
      have v4 : wr.drew.cell? (d4.add i) = some (.int .i64 o) := u4
      have v5 : wr.drew.cell? (d5.add i) = some (.int .i64 x) := u5
      have v6 : wr.drew.cell? (d6.add i) = some (.int .i64 o) := u6
      have t1 : (o != o) = false := by simp
      have t2 : decide (x < 0) = false := decide_eq_false (by omega)
      have t3 : ¬ x < 0 := by omega
      have n0 : (0 : Int) ≤ (i : Int) := by omega
      have HO := Aside0.mk ho
      have HX := Aside0.mk hx
      have HLOW := Aside0.mk hlow
      have UP := Aside0.mk up
      clear a4 a5 a6 ho hx hlow up
      have FB := Aside0.mk (show ∀ y ∈ P, 0 ≤ y ∧ y ≤ 2147483648 from fun y hy => by
        obtain ⟨q, hq, rfl⟩ := List.getElem_of_mem hy
        have h := FIT.out.low q hq
        rw [List.getD_eq_getElem?_getD, List.getElem?_eq_getElem hq] at h
        have h2 : 0 ≤ P[q] ∧ P[q] ≤ 65536 := h
        omega)
      have H1D := Aside0.mk (show Below w9.heap.size w9 wr.drew from H1.out.drew)
      by_cases c0 : i = 0
      · have t4 : decide ((i : Int) > 0) = false := decide_eq_false (by omega)
        have t5 : decide (0 < i) = false := decide_eq_false (by omega)
        have t6 : ¬ 0 < i := by omega
        have t7 : ¬ (0 : Int) < (i : Int) := by omega
        have C0 := Go.Lib.hid c0
        clear c0
        go_wp2_with fail
        go_region
        go_wp2_with fail
        go_loopg [115] (i + 1) (fun kx s115 wr => ∃ j : Nat, s115 = .int .i64 (j : Int) ∧ Hid (j ≤ i ∧ i < j + kx) ∧ Aside0 (Below w9.heap.size w9 wr))
        case atStart => exact ⟨0, rfl, ⟨by omega, by omega⟩, H1D⟩
        case round =>
          obtain ⟨j, rfl, hj2, H2⟩ := hrel
          have up2 : ∀ (a : Addr) v, w9.cell? a = some v → wr.cell? a = some v := fun a v h => by
            have hl := World.block_lt_of_cell? w9 a h
            simpa [World.cell?, H2.out.block a.block hl] using h
          by_cases cj : j < i
          · have cj' : (j : Int) < (i : Int) := by omega
            have cjn : (j : Int) < (O.length : Int) := by omega
            obtain ⟨dx, ex, a4⟩ := R4.out j (by omega)
            obtain rfl : d4 = dx := by injection ex
            obtain ⟨dy, ey, a5⟩ := R4.out i ci
            obtain rfl : d4 = dy := by injection ey
            have u1 := up2 _ _ a4
            have u2 := up2 _ _ a5
            obtain ⟨o2, ho2⟩ : ∃ o2, o2 = O.getD j 0 := ⟨_, rfl⟩
            rw [← ho2] at u1
            rw [← HO.out] at u2
            have v1 : wr.drew.cell? (d4.add j) = some (.int .i64 o2) := u1
            have v2 : wr.drew.cell? (d4.add i) = some (.int .i64 o) := u2
            have t8 : (o2 == o) = false := by
              have h := HF.out.apart j i cj ci
              rw [ho2, HO.out]
              exact beq_eq_false_iff_ne.2 h
            have H3 := Aside0.mk (show Below w9.heap.size w9 wr.drew from H2.out.drew)
            clear up2 ex ey a4 a5 ho2
            go_wp2_with fail
            go_region
            go_wp2_with fail
            go_roundg (i + 1 - (j + 1))
            case measure => have := hj2.out; omega
            case rel => exact ⟨j + 1, congrArg (Value.int .i64) (by have := HOP.out; first | (unfold wrap64; omega) | omega), ⟨by omega, by have := hj2.out; omega⟩, H3⟩
          · obtain rfl : j = i := by have := hj2.out; omega
            obtain ⟨dz, ez, a6⟩ := R5.out j (by have := HOP.out.1; omega)
            obtain rfl : d5 = dz := by injection ez
            have u3 := up2 _ _ a6
            rw [← HX.out] at u3
            have v3 : wr.drew.cell? (d5.add j) = some (.int .i64 x) := u3
            clear up2 ez a6
            go_wp2_with fail
            go_roundg (O.length + 1 - (j + 1))
            case measure => have := hj.out; omega
            case rel => exact ⟨j + 1, congrArg (Value.int .i64) (by
              have hl : j < P.length := by have := HOP.out.1; omega
              have hb := sum_bounds (P.take j) (fun y hy => FB.out y (List.mem_of_mem_take hy))
              rw [List.length_take] at hb
              rw [take_next P j hl, List.sum_append, List.sum_singleton, ← HX.out]
              have := HLOW.out
              have := HOP.out
              unfold wrap64
              omega), congrArg (Value.int .i64) (by have := HOP.out; first | (unfold wrap64; omega) | omega), ⟨by omega, by have := hj.out; omega⟩, by first | exact H2 | exact ⟨H2.out.drew⟩⟩
      · obtain ⟨i2, hi2⟩ : ∃ i2 : Nat, (i : Int) - 1 = (i2 : Int) := ⟨i - 1, by omega⟩
        have hi3 : i2 = i - 1 := by omega
        obtain ⟨dq, eq, a7⟩ := R5.out i2 (by have := HOP.out.1; omega)
        obtain rfl : d5 = dq := by injection eq
        obtain ⟨y, hy⟩ : ∃ y, y = P.getD i2 0 := ⟨_, rfl⟩
        rw [← hy] at a7
        have u7 := UP.out _ _ a7
        have v7 : wr.drew.cell? (d5.add i2) = some (.int .i64 y) := u7
        have hfl := FIT.out.falls i (by omega) (by have := HOP.out.1; omega)
        rw [← HX.out, ← hi3, ← hy] at hfl
        have t4 : decide ((i : Int) > 0) = true := decide_eq_true (by omega)
        have t5 : decide (0 < i) = true := decide_eq_true (by omega)
        have t6 : 0 < i := by omega
        have t7 : (0 : Int) < (i : Int) := by omega
        have s1 : wrap64 ((i : Int) - 1) = (i2 : Int) := by have := HOP.out; unfold wrap64; omega
        have s2 : IntKind.i64.wrap ((i : Int) - 1) = (i2 : Int) := by rw [wrap_eq]; exact s1
        have s3 : decide (x > y) = false := decide_eq_false (by omega)
        have s4 : decide (y < x) = false := decide_eq_false (by omega)
        have s5 : ¬ y < x := by omega
        have s6 : (i2 : Int) < (P.length : Int) := by have := HOP.out.1; omega
        have s7 : (0 : Int) ≤ (i2 : Int) := by omega
        clear eq a7 hy hi2 hi3 hfl c0
        go_wp2_with fail
        go_region
        go_wp2_with fail
        go_loopg [115] (i + 1) (fun kx s115 wr => ∃ j : Nat, s115 = .int .i64 (j : Int) ∧ Hid (j ≤ i ∧ i < j + kx) ∧ Aside0 (Below w9.heap.size w9 wr))
        case atStart => exact ⟨0, rfl, ⟨by omega, by omega⟩, H1D⟩
        case round =>
          obtain ⟨j, rfl, hj2, H2⟩ := hrel
          have up2 : ∀ (a : Addr) v, w9.cell? a = some v → wr.cell? a = some v := fun a v h => by
            have hl := World.block_lt_of_cell? w9 a h
            simpa [World.cell?, H2.out.block a.block hl] using h
          by_cases cj : j < i
          · have cj' : (j : Int) < (i : Int) := by omega
            have cjn : (j : Int) < (O.length : Int) := by omega
            obtain ⟨dx, ex, a4⟩ := R4.out j (by omega)
            obtain rfl : d4 = dx := by injection ex
            obtain ⟨dy, ey, a5⟩ := R4.out i ci
            obtain rfl : d4 = dy := by injection ey
            have u1 := up2 _ _ a4
            have u2 := up2 _ _ a5
            obtain ⟨o2, ho2⟩ : ∃ o2, o2 = O.getD j 0 := ⟨_, rfl⟩
            rw [← ho2] at u1
            rw [← HO.out] at u2
            have v1 : wr.drew.cell? (d4.add j) = some (.int .i64 o2) := u1
            have v2 : wr.drew.cell? (d4.add i) = some (.int .i64 o) := u2
            have t8 : (o2 == o) = false := by
              have h := HF.out.apart j i cj ci
              rw [ho2, HO.out]
              exact beq_eq_false_iff_ne.2 h
            have H3 := Aside0.mk (show Below w9.heap.size w9 wr.drew from H2.out.drew)
            clear up2 ex ey a4 a5 ho2
            go_wp2_with fail
            go_region
            go_wp2_with fail
            go_roundg (i + 1 - (j + 1))
            case measure => have := hj2.out; omega
            case rel => exact ⟨j + 1, congrArg (Value.int .i64) (by have := HOP.out; first | (unfold wrap64; omega) | omega), ⟨by omega, by have := hj2.out; omega⟩, H3⟩
          · obtain rfl : j = i := by have := hj2.out; omega
            obtain ⟨dz, ez, a6⟩ := R5.out j (by have := HOP.out.1; omega)
            obtain rfl : d5 = dz := by injection ez
            have u3 := up2 _ _ a6
            rw [← HX.out] at u3
            have v3 : wr.drew.cell? (d5.add j) = some (.int .i64 x) := u3
            clear up2 ez a6
            go_wp2_with fail
            go_roundg (O.length + 1 - (j + 1))
            case measure => have := hj.out; omega
            case rel => exact ⟨j + 1, congrArg (Value.int .i64) (by
              have hl : j < P.length := by have := HOP.out.1; omega
              have hb := sum_bounds (P.take j) (fun y hy => FB.out y (List.mem_of_mem_take hy))
              rw [List.length_take] at hb
              rw [take_next P j hl, List.sum_append, List.sum_singleton, ← HX.out]
              have := HLOW.out
              have := HOP.out
              unfold wrap64
              omega), congrArg (Value.int .i64) (by have := HOP.out; first | (unfold wrap64; omega) | omega), ⟨by omega, by have := hj.out; omega⟩, by first | exact H2 | exact ⟨H2.out.drew⟩⟩
    · obtain rfl : i = O.length := by have := hj.out; omega
      have hPt : P.take O.length = P := List.take_of_length_le (by have := HOP.out.1; omega)
      rw [hPt]
      have HB := Aside0.mk (B9.out.bel.trans (H1.out.mono B9.out.bel.size))
      by_cases cE : E = 0
      · have hs := (HF.out.fit cE).sum
        have z1 : (E != 0) = false := by simpa using cE
        have z2 : (P.sum == 65536) = true := by rw [hs]; rfl
        clear cE hs hPt ci hj
        go_wp2_with fail
        go_ret
        exact ⟨rfl, HB.out⟩
      · have z1 : (E != 0) = true := bne_iff_ne.2 cE
        clear cE hPt ci hj
        go_wp2_with fail
        go_ret
        exact ⟨rfl, HB.out⟩
end Go.Proofs.Ytjcfhgpaipbedaa.Ch
