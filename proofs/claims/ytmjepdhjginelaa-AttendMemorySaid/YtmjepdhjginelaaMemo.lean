/- AttendMemory: the law's walk. -/
import Derived.Sort.LoopGhostIn
import Derived.Test.YtmjepdhjginelaaTurn
import Derived.Test.YtmjepdhjginelaaMem2
namespace Go.Proofs.Ytmjepdhjginelaa.Tu
set_option linter.unusedVariables false
open Go.Proofs Go.RowKit Go.Shelf Go.Lib Go.Sort Go.Proofs.YtmjepdhjginelaaW.PrintWords Go.Proofs.YtmjepdhjginelaaW.PrintLast Go.Proofs.YtmjepdhjginelaaW.PrintMore Go.Proofs.Ytmjepdhjginelaa.B Go.Proofs.Ytmjepdhjginelaa.St Go.Proofs.Ytmjepdhjginelaa.Pure Go.Proofs.Ytmjepdhjginelaa.Mem
attribute [local go_sem] Oper.semAt_some
theorem info8 : (Try.prog.info? 53).map (fun i => (i.zero, i.size, i.bytes)) = some (some (.int .i8 0), 1, 1) := by kernel_rfl
theorem infoR : (Try.prog.info? 22).map (fun i => (i.zero, i.size, i.bytes)) = some (some (.slice none 0 0), 1, 24) := by kernel_rfl
set_option maxRecDepth 100000 in
set_option maxHeartbeats 4000000 in
theorem memory_calls (A0 : Option Addr) (c0 : Nat) (q : List Int) (heads s : Int) (A2 : Option Addr) (c2 : Nat) (l : List P49) (w : World) (hr0 : Kd.C (Kd.int .i8) w A0 q.length q) (hc0 : q.length ≤ c0) (hr2 : Kd.C k49 w A2 l.length l) (hc2 : l.length ≤ c2) (hG : PG l) (hq : q.length * 1 ≤ 140737488351232) :
    Calls Try.prog 9 #[.slice A0 q.length c0, .agg #[.int .i64 heads, .int .i64 s, .slice A2 l.length c2]] w fun e w' => e = .returned (.bool true) ∧ Below w.heap.size w w' := by
  have HG := Aside0.mk hG
  have HQ := Go.Lib.hid hq
  have HR0 := Aside0.mk (fun W (hB : Below w.heap.size w W) => And.intro (Kd.C_below hr0 hB) hc0)
  have HF0 := Aside0.mk (fun W (hB : Below w.heap.size w W) => (Kd.F_below (Kd.C_F (Kd.heap_int .i8) hr0) hB : Kd.F (Kd.int .i8) W (fun k_ => k_ < w.heap.size) A0 q.length q))
  have HR2 := Aside0.mk (fun W (hB : Below w.heap.size w W) => And.intro (Kd.C_below hr2 hB) hc2)
  have HV2 := Aside0.mk (And.intro (fun W (hB : Below w.heap.size w W) => (Kd.F_below (Kd.C_F k49_heap hr2) hB : Kd.F k49 W (fun k_ => k_ < w.heap.size) A2 l.length l)) hc2)
  clear hG hr0 hc0 hr2 hc2 hq
  obtain ⟨R, E, hRE⟩ : ∃ R E, lookL q heads (ksL l) (vsL l) s = (R, E) := ⟨_, _, rfl⟩
  have HRE := Aside0.mk hRE
  clear hRE
  go_enter Try.func9, Try.ntmps9
  go_wp2_with fail
  obtain ⟨W0, hW0⟩ : ∃ W0, W0 = w.alloc (.cells #[.int .i64 heads, .int .i64 s, .slice A2 l.length c2] 43) := ⟨_, rfl⟩
  rw [← hW0]
  have B0 : Aside0 (Bx w W0 heads s (.slice A2 l.length c2)) := ⟨⟨by rw [hW0]; exact heap_alloc_new w _, by rw [hW0]; exact below_alloc (Below.refl _ w) _⟩⟩
  clear hW0
  have b0 := B0.out.c0
  have b1 := B0.out.c1
  have b2 := B0.out.c2
  have d0 := B0.out.drew.c0
  have d1 := B0.out.drew.c1
  have d2 := B0.out.drew.c2
  have B5 := Aside0.mk ((B0.out.kept (below_alloc (Below.refl _ W0) (.cells #[] 53))).drew)
  have f0 := B5.out.c0
  have f1 := B5.out.c1
  have f2 := B5.out.c2
  have HN0 := Aside0.mk (Kd.R_N (d := Kd.int .i8) (e := 53) (w := (W0.alloc (.cells #[] 53)).drew) (base := W0.heap.size) (ok := fun _ => True) (v := .slice (some ⟨W0.heap.size, 0, none⟩) 0 0) (xs := []) ⟨fun _ _ => trivial, [], ⟨rfl, .inr ⟨W0.heap.size, 0, #[], rfl, Nat.le_refl _, heap_alloc_new W0 _, Nat.le_refl _, Nat.zero_le _, by simp, by simp⟩⟩, Reps.none _ _⟩)
  have HB05 := Aside0.mk (show Below W0.heap.size W0 (W0.alloc (.cells #[] 53)).drew from (below_alloc (Below.refl _ W0) _).drew)
  go_region_held3 (fun w' => w'.cell? ⟨w.heap.size, 0, none⟩ = some (.int .i64 heads) ∧ w'.cell? ⟨w.heap.size, 1, none⟩ = some (.int .i64 s) ∧ w'.cell? ⟨w.heap.size, 2, none⟩ = some (.slice A2 l.length c2)) (go_keep)
    (first
      | (go_at_call 20; refine (ref_c (Kd.C_below (Kd.N_reads' B1.out.1).2.2 B2.out.2.2) (Kd.N_reads' B1.out.1).2.1 rfl (Kd.S_V B2.out.1) HG.out.len HG.out.i8 HRE.out).mono ?_; rintro e w3 ⟨v3, rfl, hv3, hB3⟩; obtain ⟨A3, c3, rfl⟩ := Kd.R_slice hv3; have B3 := Aside0.mk (And.intro hv3 (And.intro (B2.out.2.1.kept hB3) hB3)); have g0 := B3.out.2.1.c0; have g1 := B3.out.2.1.c1; have g2 := B3.out.2.1.c2; clear hv3 hB3)
      | (go_at_call 18; refine (pairs_c (HR2.out _ B1.out.2.1.bel).1 (HR2.out _ B1.out.2.1.bel).2 HG.out).mono ?_; rintro e w2 ⟨v2, rfl, hv2, hB2⟩; obtain ⟨A2', c2', rfl⟩ := Kd.S_slice hv2; have B2 := Aside0.mk (And.intro hv2 (And.intro (B1.out.2.1.kept hB2) hB2)); have g0 := B2.out.2.1.c0; have g1 := B2.out.2.1.c1; have g2 := B2.out.2.1.c2; clear hv2 hB2)
      | (refine Kd.N_append_rows_step (Kd.int .i8) (w0 := W0) W0.heap.size (by rfl) (.tmp 21) (.tmp 22) 22 53 _ 1 rfl Try.underlying22 info8 rfl (by decide) (by omega) (.slice (some ⟨W0.heap.size, 0, none⟩) 0 0) [] q _ _ _ (fun _ => True) (fun k_ => k_ < w.heap.size) rfl rfl HN0.out (HF0.out _ B5.out.bel) (fun k_ hk => ⟨trivial, fun e => by injection e with e; have h1 : k_ = W0.heap.size := e; have h2 := B0.out.bel.size; omega⟩) (fun _ _ => trivial) HB05.out HB05.out.size (by have := HQ.out; rw [List.length_nil]; omega) ?_; intro v1 w1 hn1 hb1 hg1 hat1; rw [List.nil_append] at hn1; obtain ⟨A1, c1, rfl⟩ := Kd.N_slice hn1; have B1 := Aside0.mk (And.intro hn1 (And.intro (B5.out.grown hg1 (B0.out.bel.trans (hb1.mono B0.out.bel.size)) (fun e => by injection e with e; have h1 : w.heap.size = W0.heap.size := e; have h2 := B0.out.lt; omega)) hb1)); have g0 := B1.out.2.1.c0; have g1 := B1.out.2.1.c1; have g2 := B1.out.2.1.c2; clear hn1 hb1 hg1 hat1))
  have HQR := Aside0.mk (show R.length ≤ 64 by have h := lookL_len q heads (ksL l) (vsL l) s; rw [HRE.out] at h; exact h)
  clear HN0 HB05 B5 b0 b1 b2 d0 d1 d2 f0 f1 f2
  go_wp2_with fail
  have M0 : Aside0 (MM .i8 53 22 W0 (w3.alloc (.cells #[] 22)) [.slice A3 R.length c3] [R] (.slice (some ⟨w3.heap.size, 0, none⟩) 0 0) []) := ⟨MM.start (B1.out.2.2.trans ((B2.out.2.2.trans (B3.out.2.2.mono B2.out.2.2.size)).mono B1.out.2.2.size)) (own_less (Kd.own_of_R B3.out.1) (Nat.le_trans B1.out.2.2.size B2.out.2.2.size))⟩
  clear B1 B2 B3 g0 g1 g2
  obtain ⟨W1, hW1⟩ : ∃ W1, W1 = w3.alloc (.cells #[] 22) := ⟨_, rfl⟩
  rw [← hW1] at M0 ⊢
  clear hW1
  go_loopg [7, 8] 4 (fun kx s7 s8 wr => ∃ (i : Nat) (vs : List Value) (kv : Value), kv = s7 ∧ s8 = .int .i64 (i : Int) ∧ Hid (i ≤ 3 ∧ 3 < i + kx ∧ vs.length = i) ∧ Aside0 (MM .i8 53 22 W0 wr (.slice A3 R.length c3 :: vs) (R :: List.replicate i R) kv vs))
  case atStart => exact ⟨0, [], _, rfl, rfl, ⟨by omega, by omega, rfl⟩, M0⟩
  case round =>
    clear M0
    obtain ⟨i, vs, kv, rfl, rfl, hj, M1⟩ := hrel
    by_cases ci : i < 3
    · have ci' : (i : Int) < 3 := by omega
      have B1 := Aside0.mk (B0.out.kept M1.out.bel)
      have b0 := B1.out.c0
      have b1 := B1.out.c1
      have b2 := B1.out.c2
      have d0 := B1.out.drew.c0
      have d1 := B1.out.drew.c1
      have d2 := B1.out.drew.c2
      go_wp2_with (go_at_call 19; refine (look_c (HR0.out _ B1.out.bel).1 (HR0.out _ B1.out.bel).2 (Kd.V_mk HV2.out.2 (HV2.out.1 _ B1.out.bel)) HG.out.len HG.out.i8 HRE.out).mono ?_; rintro e w4 ⟨v4, rfl, hv4, hB4⟩; obtain ⟨A4, c4, rfl⟩ := Kd.R_slice hv4; have B4 := Aside0.mk (And.intro hv4 (And.intro (B1.out.kept hB4) hB4)); clear hv4 hB4)
      have M4 := Aside0.mk (M1.out.call (W1 := w4) B4.out.2.2 (Kd.own_of_R B4.out.1))
      have HC4 := Aside0.mk (Kd.R_reads' B4.out.1).2
      clear B4 B1 b0 b1 b2 d0 d1 d2 M1
      refine (rows_c HC4.out.2 HC4.out.1 (M4.out.lot.C (i := 0) rfl rfl).2.2 (M4.out.lot.C (i := 0) rfl rfl).2.1 HQR.out).mono ?_
      rintro e w5 ⟨rfl, hB5⟩
      have M5 := Aside0.mk (M4.out.keep hB5.below)
      clear hB5
      go_wp2_with (at_builtin; go_loud (refine print_append_cells (w0 := W0) W0.heap.size rfl (.tmp 54) (.tmp 56) 23 22 (.slice none 0 0) 1 24 rfl Try.underlying23 infoR rfl (by decide) (by decide) kv vs.length vs [.slice A4 R.length c4] rfl rfl rfl (by intro u hu; rw [List.mem_singleton.1 hu]; rfl) M5.out.row M5.out.bel M5.out.bel.size (by have := hj.out; omega) ?_); intro v6 w6 hown6 hbel6 hg6 hat6; have M6 := Aside0.mk (M5.out.app (by decide) (by simp) hown6 hg6); clear hown6 hbel6 hg6 hat6)
      go_roundg (4 - (i + 1))
      case measure => have := hj.out; omega
      case rel => exact ⟨i + 1, vs ++ [.slice A4 R.length c4], _, rfl, by go_num, ⟨by have := hj.out; omega, by have := hj.out; omega, by rw [List.length_append, hj.out.2.2]; rfl⟩, by have h := M6.out; rw [List.replicate_succ']; exact ⟨h⟩⟩
    · obtain ⟨hj1, hj2, hj3⟩ := hj.out
      obtain rfl : i = 3 := by omega
      obtain ⟨L, hL⟩ : ∃ L, L = List.replicate 3 R := ⟨_, rfl⟩
      rw [← hL] at M1
      have HL3 := Aside0.mk (show L.length = 3 ∧ ∀ k, k < 3 → L.getD k [] = R by rw [hL]; exact ⟨rfl, fun k hk => by match k, hk with | 0, _ => rfl | 1, _ => rfl | 2, _ => rfl⟩)
      clear hL hj hj1 hj2 ci
      have HV := Go.Lib.hid hj3
      clear hj3
      go_wp2_with fail
      go_loopg [11] 4 (fun kx s11 wr => ∃ i : Nat, s11 = .int .i64 (i : Int) ∧ Hid (i ≤ 3 ∧ 3 < i + kx) ∧ Aside0 (MM .i8 53 22 W0 wr (.slice A3 R.length c3 :: vs) (R :: mk (fun k => (k : Int) - 1) i L) kv vs))
      case atStart => exact ⟨0, rfl, ⟨by omega, by omega⟩, by rw [mk_zero]; exact M1⟩
      case round =>
        clear M1
        obtain ⟨i, rfl, hj, M1⟩ := hrel
        by_cases ci : i < 3
        · have ci' : (i : Int) < 3 := by omega
          have LI := Aside0.mk (show i < L.length by rw [HL3.out.1]; exact ci)
          have LR : L.getD i [] = R := HL3.out.2 i ci
          have M2 : Aside0 (MM .i8 53 22 W0 wr (.slice A3 R.length c3 :: vs) (R :: mkj (fun k => (k : Int) - 1) i 0 L) kv vs) := ⟨by rw [mkj_zero LI.out]; exact M1.out⟩
          clear M1
          go_wp2_with fail
          go_loopg [12] (R.length + 1) (fun ky s12 wr => ∃ j : Nat, s12 = .int .i64 (j : Int) ∧ Hid (j ≤ R.length ∧ R.length < j + ky) ∧ Aside0 (MM .i8 53 22 W0 wr (.slice A3 R.length c3 :: vs) (R :: mkj (fun k => (k : Int) - 1) i j L) kv vs))
          case atStart => exact ⟨0, rfl, ⟨Nat.zero_le _, by omega⟩, M2⟩
          case round =>
            clear M2
            obtain ⟨j, rfl, hj2, M2⟩ := hrel
            obtain ⟨gk, ck, A, c, hk1, hk2, hk3, hk4, hk5, hk6, hk7⟩ := M2.out.at (i := i) (by rw [mkj_length]; exact LI.out)
            rw [mkj_len LI.out (by rw [LR]; exact hj2.out.1), LR] at hk4 hk5 hk6
            subst hk1
            have i1 : (i : Int) < (vs.length : Int) := by omega
            by_cases cj : j < R.length
            · have cj' : (j : Int) < (R.length : Int) := by omega
              obtain ⟨g, rfl, hg1, hg2, hg3, hg4⟩ := M2.out.num hk4 (j := j) (by rw [mkj_len LI.out (by rw [LR]; exact hj2.out.1), LR]; exact cj)
              have M3 := Aside0.mk (M2.out.mark (by decide) LI.out (show j < (L.getD i []).length by rw [LR]; exact cj) hk4 (x := (i : Int) - 1) rfl)
              go_wp2_with fail
              go_roundg (R.length + 1 - (j + 1))
              case measure => have := hj2.out; omega
              case rel => exact ⟨j + 1, congrArg (Value.int .i64) (by have := HQR.out; unfold wrap64; omega), ⟨by omega, by have := hj2.out; omega⟩, M3⟩
            · have e9 : j = R.length := by have := hj2.out; omega
              subst e9
              have M3 := Aside0.mk (show MM .i8 53 22 W0 wr (.slice A3 R.length c3 :: vs) (R :: mk (fun k => (k : Int) - 1) (i + 1) L) (.slice (some ⟨gk, 0, none⟩) vs.length ck) vs by rw [← mkj_full LI.out, LR]; exact M2.out)
              clear M2 cj
              go_wp2_with fail
              go_roundg (4 - (i + 1))
              case measure => have := hj.out; omega
              case rel => exact ⟨i + 1, by go_num, ⟨by omega, by have := hj.out; omega⟩, M3⟩
        · obtain rfl : i = 3 := by have := hj.out; omega
          clear hj ci
          obtain ⟨X, hX⟩ : ∃ X, X = mk (fun k => (k : Int) - 1) 3 L := ⟨_, rfl⟩
          rw [← hX] at M1
          have HX := Aside0.mk (show X.length = 3 ∧ ∀ k, k < 3 → X.getD k [] = List.replicate R.length ((k : Int) - 1) by rw [hX]; exact ⟨by rw [mk_length]; exact HL3.out.1, fun k hk => by rw [mk_at k (by rw [HL3.out.1]; exact hk) hk, HL3.out.2 k hk]⟩)
          clear hX
          go_wp2_with fail
          go_loopg [13] 4 (fun kx s13 wr => ∃ i : Nat, s13 = .int .i64 (i : Int) ∧ Hid (i ≤ 3 ∧ 3 < i + kx) ∧ Aside0 (MM .i8 53 22 W0 wr (.slice A3 R.length c3 :: vs) (R :: X) kv vs))
          case atStart => exact ⟨0, rfl, ⟨by omega, by omega⟩, M1⟩
          case round =>
            clear M1
            obtain ⟨i, rfl, hj, M1⟩ := hrel
            by_cases ci : i < 3
            · have ci' : (i : Int) < 3 := by omega
              have HXi := HX.out.2 i ci
              obtain ⟨gk, ck, A, c, hk1, hk2, hk3, hk4, hk5, hk6, hk7⟩ := M1.out.at (i := i) (by rw [HX.out.1]; exact ci)
              rw [HXi, List.length_replicate] at hk4 hk5 hk6
              subst hk1
              have i1 : (i : Int) < (vs.length : Int) := by omega
              obtain ⟨Y, hY⟩ : ∃ Y : List Int, Y = List.replicate R.length ((i : Int) - 1) := ⟨_, rfl⟩
              have HY := Aside0.mk hY
              have G0 : Aside0 (GG .i8 53 22 W0 wr (.slice A3 R.length c3 :: vs) (R :: X) (.slice (some ⟨gk, 0, none⟩) vs.length ck) vs (.slice A R.length c) (Y ++ List.replicate 0 77)) := ⟨by
                have h := GG.start (xs := Y) M1.out (i := i + 1) hk4 (show X[i]? = some Y by rw [hY, ← HXi, List.getD_eq_getElem?_getD, List.getElem?_eq_getElem (by rw [HX.out.1]; exact ci)]; rfl)
                rw [List.replicate_zero, List.append_nil]
                exact h⟩
              clear M1 hY HXi
              go_wp2_with fail
              go_loopg [14, 15] 21 (fun ky s14 s15 wr => ∃ (j : Nat) (gv : Value), gv = s14 ∧ s15 = .int .i64 (j : Int) ∧ Hid (j ≤ 20 ∧ 20 < j + ky) ∧ Aside0 (GG .i8 53 22 W0 wr (.slice A3 R.length c3 :: vs) (R :: X) (.slice (some ⟨gk, 0, none⟩) vs.length ck) vs gv (Y ++ List.replicate j 77)))
              case atStart => exact ⟨0, _, rfl, rfl, ⟨by omega, by omega⟩, G0⟩
              case round =>
                clear G0
                obtain ⟨j, gv, rfl, rfl, hj2, G1⟩ := hrel
                by_cases cj : j < 20
                · have cj' : (j : Int) < 20 := by omega
                  go_wp2_with (at_builtin; go_loud (refine wpList_append_kept G1.out (by decide) rfl (.tmp 92) (.tmp 93) 22 1 rfl Try.underlying22 info8 (by decide) 77 rfl rfl (by have := hj2.out; have := HQR.out; rw [HY.out, List.length_append, List.length_replicate, List.length_replicate]; omega) ?_); intro gv2 w7 hG2; rw [List.append_assoc, ← List.replicate_succ'] at hG2; have G2 := Aside0.mk hG2; clear hG2)
                  go_roundg (21 - (j + 1))
                  case measure => have := hj2.out; omega
                  case rel => exact ⟨j + 1, _, rfl, by go_num, ⟨by omega, by have := hj2.out; omega⟩, G2⟩
                · obtain rfl : j = 20 := by have := hj2.out; omega
                  have M3 := Aside0.mk G1.out.mm
                  clear G1 cj
                  go_wp2_with fail
                  go_roundg (4 - (i + 1))
                  case measure => have := hj.out; omega
                  case rel => exact ⟨i + 1, by go_num, ⟨by omega, by have := hj.out; omega⟩, M3⟩
            · obtain rfl : i = 3 := by have := hj.out; omega
              clear hj ci
              go_wp2_with fail
              go_loopg [16] 4 (fun kx s16 wr => ∃ i : Nat, s16 = .int .i64 (i : Int) ∧ Hid (i ≤ 3 ∧ 3 < i + kx) ∧ Aside0 (MM .i8 53 22 W0 wr (.slice A3 R.length c3 :: vs) (R :: X) kv vs))
              case atStart => exact ⟨0, rfl, ⟨by omega, by omega⟩, M1⟩
              case round =>
                clear M1
                obtain ⟨i, rfl, hj, M1⟩ := hrel
                by_cases ci : i < 3
                · have ci' : (i : Int) < 3 := by omega
                  have HXi := HX.out.2 i ci
                  go_wp2_with fail
                  go_loopg [17] (R.length + 1) (fun ky s17 wr => ∃ j : Nat, s17 = .int .i64 (j : Int) ∧ Hid (j ≤ R.length ∧ R.length < j + ky) ∧ Aside0 (MM .i8 53 22 W0 wr (.slice A3 R.length c3 :: vs) (R :: X) kv vs))
                  case atStart => exact ⟨0, rfl, ⟨by omega, by omega⟩, M1⟩
                  case round =>
                    clear M1
                    obtain ⟨j, rfl, hj2, M1⟩ := hrel
                    obtain ⟨gk, ck, A, c, hk1, hk2, hk3, hk4, hk5, hk6, hk7⟩ := M1.out.at (i := i) (by rw [HX.out.1]; exact ci)
                    rw [HXi, List.length_replicate] at hk4 hk5 hk6
                    subst hk1
                    have i1 : (i : Int) < (vs.length : Int) := by omega
                    by_cases cj : j < R.length
                    · have cj' : (j : Int) < (R.length : Int) := by omega
                      obtain ⟨g, rfl, hg1, hg2, hg3, hg4⟩ := M1.out.num hk4 (j := j) (by rw [HXi, List.length_replicate]; exact cj)
                      rw [HXi, List.getD_eq_getElem?_getD, List.getElem?_eq_getElem (by rw [List.length_replicate]; exact cj), List.getElem_replicate, Option.getD_some] at hg3
                      go_wp2_with fail
                      go_roundg (R.length + 1 - (j + 1))
                      case measure => have := hj2.out; omega
                      case rel => exact ⟨j + 1, congrArg (Value.int .i64) (by have := HQR.out; unfold wrap64; omega), ⟨by omega, by have := hj2.out; omega⟩, M1⟩
                    · have e9 : j = R.length := by have := hj2.out; omega
                      subst e9
                      clear cj
                      go_wp2_with fail
                      go_roundg (4 - (i + 1))
                      case measure => have := hj.out; omega
                      case rel => exact ⟨i + 1, by go_num, ⟨by omega, by have := hj.out; omega⟩, M1⟩
                · obtain rfl : i = 3 := by have := hj.out; omega
                  clear hj ci
                  have B1 := Aside0.mk (B0.out.kept M1.out.bel)
                  have b0 := B1.out.c0
                  have b1 := B1.out.c1
                  have b2 := B1.out.c2
                  go_wp2_with (go_at_call 19; refine (look_c (HR0.out _ B1.out.bel).1 (HR0.out _ B1.out.bel).2 (Kd.V_mk HV2.out.2 (HV2.out.1 _ B1.out.bel)) HG.out.len HG.out.i8 HRE.out).mono ?_; rintro e w4 ⟨v4, rfl, hv4, hB4⟩; obtain ⟨A4, c4, rfl⟩ := Kd.R_slice hv4; have B4 := Aside0.mk (And.intro hv4 (And.intro (B1.out.kept hB4) hB4)); clear hv4 hB4)
                  have M4 := Aside0.mk (M1.out.keep B4.out.2.2)
                  refine awake_c.mono ?_
                  rintro e w5 ⟨rfl, hB5⟩
                  have M5 := Aside0.mk (M4.out.keep hB5)
                  have HC5 := Aside0.mk (Kd.C_below (Kd.R_reads' B4.out.1).2.2 hB5)
                  have HL5 := Aside0.mk (Kd.R_reads' B4.out.1).2.1
                  have HB5 := Aside0.mk (B4.out.2.1.kept hB5).bel
                  clear hB5 M4 M1 B4 B1 b0 b1 b2
                  go_wp2_with (go_at_call 17; refine (rows_c HC5.out HL5.out (M5.out.lot.C (i := 0) rfl rfl).2.2 (M5.out.lot.C (i := 0) rfl rfl).2.1 HQR.out).mono ?_; rintro e w6 ⟨rfl, hB6⟩; have H6 := Aside0.mk hB6; clear hB6)
                  go_ret
                  exact ⟨rfl, HB5.out.trans (H6.out.below.mono HB5.out.size)⟩
end Go.Proofs.Ytmjepdhjginelaa.Tu
