/- RankMemory: the law's walk. -/
import Derived.Sort.LoopGhostIn
import Derived.Test.YtfegaffcalpmbaaRmC
import Derived.Test.YtfegaffcalpmbaaMem3
namespace Go.Proofs.Ytfegaffcalpmbaa.Rm
set_option linter.unusedVariables false
open Go.Proofs Go.RowKit Go.Shelf Go.Lib Go.Sort Go.Proofs.YtfegaffcalpmbaaW.PrintWords Go.Proofs.Ytfegaffcalpmbaa.A Go.Proofs.Ytfegaffcalpmbaa.St Go.Proofs.Ytfegaffcalpmbaa.Pure Go.Proofs.Ytfegaffcalpmbaa.Mem
attribute [local go_sem] Oper.semAt_some
theorem info64 : (Try.prog.info? 2).map (fun i => (i.zero, i.size, i.bytes)) = some (some (.int .i64 0), 1, 8) := by kernel_rfl
theorem own_of_R' {e base : Nat} {ok : Nat → Prop} {w : World} {v : Value} {xs : List Int} (h : Kd.R (Kd.int .i64) e w base ok v xs) : w.ownsRow base e 1 v xs.length (nums .i64 xs) := Kd.own_of_R h
theorem infoI : (Try.prog.info? 3).map (fun i => (i.zero, i.size, i.bytes)) = some (some (.int .i64 0), 1, 8) := by kernel_rfl
theorem infoRI : (Try.prog.info? 23).map (fun i => (i.zero, i.size, i.bytes)) = some (some (.slice none 0 0), 1, 24) := by kernel_rfl
theorem infoR64 : (Try.prog.info? 22).map (fun i => (i.zero, i.size, i.bytes)) = some (some (.slice none 0 0), 1, 24) := by kernel_rfl
set_option maxRecDepth 100000 in
set_option maxHeartbeats 4000000 in
theorem memory_calls (A0 : Option Addr) (c0 : Nat) (l : List Int) (part total : Int) (w : World) (hr0 : Kd.C (Kd.int .i64) w A0 l.length l) (hc0 : l.length ≤ c0) (hq0 : l.length ≤ 17592186043904) :
    Calls Try.prog 11 #[.slice A0 l.length c0, .int .i64 part, .int .i64 total] w fun e w' => e = .returned (.bool true) ∧ Below w.heap.size w w' := by
  have HQ0 := Go.Lib.hid hq0
  have HQ := Go.Lib.hid (show l.length < 17592186044416 by omega)
  have HR0 := Aside0.mk (fun W (hB : Below w.heap.size w W) => And.intro (Kd.C_below hr0 hB) hc0)
  have HF0 := Aside0.mk (fun W (hB : Below w.heap.size w W) => (Kd.F_below (Kd.C_F (Kd.heap_int .i64) hr0) hB : Kd.F (Kd.int .i64) W (fun k_ => k_ < w.heap.size) A0 l.length l))
  obtain ⟨O, OE, hO⟩ : ∃ R E, nucL l part = (R, E) := ⟨_, _, rfl⟩
  obtain ⟨S, SE, hS⟩ : ∃ R E, shareL l total = (R, E) := ⟨_, _, rfl⟩
  have HO := Aside0.mk hO
  have HS := Aside0.mk hS
  have HOl := Aside0.mk (show O.length ≤ l.length by have h := nucL_len l part; rw [hO] at h; exact h)
  have HSl := Aside0.mk (show S.length ≤ l.length by have h := length_share l total; rw [hS] at h; exact h)
  have HN := Aside0.mk (fun W : World => Kd.R_N (d := Kd.int .i64) (e := 2) (w := W.alloc (.cells #[] 2)) (base := W.heap.size) (ok := fun _ => True) (v := .slice (some ⟨W.heap.size, 0, none⟩) 0 0) (xs := []) ⟨fun _ _ => trivial, [], ⟨rfl, .inr ⟨W.heap.size, 0, #[], rfl, Nat.le_refl _, heap_alloc_new W _, Nat.le_refl _, Nat.zero_le _, by simp, by simp⟩⟩, Reps.none _ _⟩)
  clear hr0 hc0 hq0 hO hS
  go_enter Try.func11, Try.ntmps11
  go_wp2_with (first
    | (go_at_call 27; refine (nuc_r (Kd.N_reads' B1.out.1).2.2 (Kd.N_reads' B1.out.1).2.1 HQ.out HO.out).mono ?_; rintro e w2 ⟨v2, rfl, hv2, hB2⟩; obtain ⟨A2, c2, rfl⟩ := Kd.R_slice hv2; have B2 := Aside0.mk (And.intro hv2 (B1.out.2.trans (hB2.mono B1.out.2.size))); have HW1 := Aside0.mk B1.out.2.size; clear hv2 hB2)
    | (at_builtin; refine Kd.N_append_rows (Kd.int .i64) (w0 := w) w.heap.size rfl (.tmp 39) (.tmp 40) 22 2 _ 8 rfl Try.underlying22 info64 rfl (by decide) (by omega) (.slice (some ⟨w.heap.size, 0, none⟩) 0 0) [] l _ _ _ (fun _ => True) (fun k_ => k_ < w.heap.size) rfl rfl (HN.out w) (HF0.out _ (below_alloc (Below.refl _ w) _)) (fun k_ hk => ⟨trivial, fun e => by injection e with e; have h1 : k_ = w.heap.size := e; omega⟩) (fun _ _ => trivial) (below_alloc (Below.refl _ w) _) (below_alloc (Below.refl _ w) _).size (by have := HQ.out; rw [List.length_nil]; omega) ?_; intro v1 w1 hn1 hb1 hg1 hat1; rw [List.nil_append] at hn1; obtain ⟨A1, c1, rfl⟩ := Kd.N_slice hn1; have B1 := Aside0.mk (And.intro hn1 hb1); clear hn1 hb1 hg1 hat1)
    | (go_at_call 17; refine (share_r (Kd.N_reads' B3.out.1).2.2 (Kd.N_reads' B3.out.1).2.1 HQ.out HS.out).mono ?_; rintro e w4 ⟨v4, rfl, hv4, hB4⟩; obtain ⟨A4, c4, rfl⟩ := Kd.R_slice hv4; have B4 := Aside0.mk (And.intro hv4 (And.intro (B3.out.2.trans (hB4.mono B3.out.2.size)) B3.out.2.size)); clear hv4 hB4)
    | (at_builtin; refine Kd.N_append_rows (Kd.int .i64) (w0 := w2) w2.heap.size rfl (.tmp 47) (.tmp 48) 22 2 _ 8 rfl Try.underlying22 info64 rfl (by decide) (by omega) (.slice (some ⟨w2.heap.size, 0, none⟩) 0 0) [] l _ _ _ (fun _ => True) (fun k_ => k_ < w.heap.size) rfl rfl (HN.out w2) (HF0.out _ (below_alloc B2.out.2 _)) (fun k_ hk => ⟨trivial, fun e => by injection e with e; have h1 : k_ = w2.heap.size := e; have h2 := B2.out.2.size; omega⟩) (fun _ _ => trivial) (below_alloc (Below.refl _ w2) _) (below_alloc (Below.refl _ w2) _).size (by have := HQ.out; rw [List.length_nil]; omega) ?_; intro v3 w3 hn3 hb3 hg3 hat3; rw [List.nil_append] at hn3; obtain ⟨A3, c3, rfl⟩ := Kd.N_slice hn3; have B3 := Aside0.mk (And.intro hn3 hb3); clear hn3 hb3 hg3 hat3))
  have M0 : Aside0 (MM .i64 3 23 w ((w4.alloc (.cells #[] 23)).alloc (.cells #[] 22)) [.slice A2 O.length c2] [O] (.slice (some ⟨w4.heap.size, 0, none⟩) 0 0) [] ∧ MM .i64 2 22 w ((w4.alloc (.cells #[] 23)).alloc (.cells #[] 22)) [.slice A4 S.length c4] [S] (.slice (some ⟨w4.heap.size + 1, 0, none⟩) 0 0) []) := by
    have hb4 : Below w.heap.size w w4 := B2.out.2.trans (B4.out.2.1.mono B2.out.2.size)
    have ho : w4.ownsRow w.heap.size 3 1 (.slice A2 O.length c2) O.length (nums .i64 O) := own_less (own_of_R' (Kd.R_below B2.out.1 B4.out.2.1)) HW1.out
    have hs : w4.ownsRow w.heap.size 2 1 (.slice A4 S.length c4) S.length (nums .i64 S) := own_less (own_of_R' B4.out.1) (Nat.le_trans B2.out.2.size B4.out.2.2)
    have h1 := MM.start (eo := 23) hb4 ho
    have h2 := MM.start (eo := 22) (below_alloc hb4 (.cells #[] 23)) (own_alloc hs (.cells #[] 23))
    rw [World.size_alloc] at h2
    exact ⟨⟨h1.keep (below_alloc (Below.refl _ _) _), h2⟩⟩
  clear B1 B2 B3 B4 HW1
  obtain ⟨W1, hW1⟩ : ∃ W1, W1 = (w4.alloc (.cells #[] 23)).alloc (.cells #[] 22) := ⟨_, rfl⟩
  rw [← hW1] at M0 ⊢
  clear hW1
  go_loopg [11, 12, 13] 4 (fun kx s11 s12 s13 wr => ∃ (i : Nat) (us vs : List Value) (X Y : List (List Int)) (kO kS : Value), kO = s11 ∧ kS = s12 ∧ s13 = .int .i64 (i : Int) ∧ Hid (i ≤ 3 ∧ 3 < i + kx ∧ us.length = 3 * i ∧ vs.length = i ∧ (∀ x ∈ X, x.length ≤ l.length) ∧ ∀ y ∈ Y, y.length ≤ l.length) ∧ Aside0 (MM .i64 3 23 w wr (.slice A2 O.length c2 :: us) (O :: X) kO us ∧ MM .i64 2 22 w wr (.slice A4 S.length c4 :: vs) (S :: Y) kS vs))
  case atStart => exact ⟨0, [], [], [], [], _, _, rfl, rfl, rfl, ⟨by omega, by omega, rfl, rfl, (fun x hx => by cases hx), (fun x hx => by cases hx)⟩, M0⟩
  case round =>
    clear M0
    obtain ⟨i, us, vs, X, Y, kO, kS, rfl, rfl, rfl, hj, M0⟩ := hrel
    by_cases ci : i < 3
    · have ci' : (i : Int) < 3 := by omega
      go_wp2_with (first
        | (go_at_call 26; refine (nuc_c (HR0.out _ M0.out.1.bel).1 (HR0.out _ M0.out.1.bel).2 HQ.out HO.out).mono ?_; rintro e wa ⟨va, rfl, hv, hB⟩; obtain ⟨Aa, ca, rfl⟩ := Kd.R_slice hv; have Ma := Aside0.mk (And.intro (M0.out.1.call hB (own_of_R' hv)) (M0.out.2.keep hB)); have Ca := Aside0.mk (Kd.R_reads' hv).2; clear hv hB)
        | (go_at_call 16; refine (share_c (HR0.out _ Ma.out.1.bel).1 (HR0.out _ Ma.out.1.bel).2 HQ.out HS.out).mono ?_; rintro e wb ⟨vb, rfl, hv, hB⟩; obtain ⟨Ab, cb, rfl⟩ := Kd.R_slice hv; have Mb := Aside0.mk (And.intro (Ma.out.1.keep hB) (Ma.out.2.call hB (own_of_R' hv))); have Ca := Aside0.mk (And.intro Ca.out.1 (Kd.C_below Ca.out.2 hB)); have Cb := Aside0.mk (Kd.R_reads' hv).2; clear hv hB)
        | (go_at_call 14; refine (order_c (HR0.out _ Mb.out.1.bel).1 (HR0.out _ Mb.out.1.bel).2 HQ.out).mono ?_; rintro e wc ⟨vc, rfl, hv, hB⟩; obtain ⟨Ac, cc, rfl⟩ := Kd.R_slice hv; have Mc := Aside0.mk (And.intro (Mb.out.1.call hB (own_of_R' hv)) (Mb.out.2.keep hB)); have Ca := Aside0.mk (And.intro Ca.out.1 (Kd.C_below Ca.out.2 hB)); have Cb := Aside0.mk (And.intro Cb.out.1 (Kd.C_below Cb.out.2 hB)); have Cc := Aside0.mk (Kd.R_reads' hv).2; clear hv hB)
        | (go_at_call 24; refine (top_c (HR0.out _ Mc.out.1.bel).1 (HR0.out _ Mc.out.1.bel).2 HQ.out).mono ?_; rintro e wd ⟨vd, rfl, hv, hB⟩; obtain ⟨Ad, cd, rfl⟩ := Kd.R_slice hv; have Md := Aside0.mk (And.intro (Mc.out.1.call hB (own_of_R' hv)) (Mc.out.2.keep hB)); have Ca := Aside0.mk (And.intro Ca.out.1 (Kd.C_below Ca.out.2 hB)); have Cb := Aside0.mk (And.intro Cb.out.1 (Kd.C_below Cb.out.2 hB)); have Cc := Aside0.mk (And.intro Cc.out.1 (Kd.C_below Cc.out.2 hB)); have Cd := Aside0.mk (Kd.R_reads' hv).2; clear hv hB))
      refine (ints_c Ca.out.2 Ca.out.1 (Md.out.1.lot.C (i := 0) rfl rfl).2.2 (Md.out.1.lot.C (i := 0) rfl rfl).2.1 (Nat.lt_of_le_of_lt HOl.out HQ.out)).mono ?_
      rintro e we ⟨rfl, hB⟩
      have Me := Aside0.mk (And.intro (Md.out.1.keep hB.below) (Md.out.2.keep hB.below))
      have Cb := Aside0.mk (And.intro Cb.out.1 (Kd.C_below Cb.out.2 hB.below))
      have Cc := Aside0.mk (And.intro Cc.out.1 (Kd.C_below Cc.out.2 hB.below))
      have Cd := Aside0.mk (And.intro Cd.out.1 (Kd.C_below Cd.out.2 hB.below))
      clear hB Ca Md Mc Mb Ma M0
      go_wp2_with (first
        | (go_at_call 18; refine (longs_c Cb.out.2 Cb.out.1 (Me.out.2.lot.C (i := 0) rfl rfl).2.2 (Me.out.2.lot.C (i := 0) rfl rfl).2.1 (Nat.lt_of_le_of_lt HSl.out HQ.out)).mono ?_; rintro e wf ⟨rfl, hB⟩; have Mf := Aside0.mk (And.intro (Me.out.1.keep hB.below) (Me.out.2.keep hB.below)); have Cc := Aside0.mk (And.intro Cc.out.1 (Kd.C_below Cc.out.2 hB.below)); have Cd := Aside0.mk (And.intro Cd.out.1 (Kd.C_below Cd.out.2 hB.below)); clear hB)
        | (go_at_call 22; refine (order_r (HR0.out _ Mf.out.1.bel).1 (HR0.out _ Mf.out.1.bel).2 HQ.out).mono ?_; rintro e wg ⟨vg, rfl, hv, hB⟩; obtain ⟨Ag, cg, rfl⟩ := Kd.R_slice hv; have Mg := Aside0.mk (And.intro (Mf.out.1.keep hB) (Mf.out.2.keep hB)); have Cc := Aside0.mk (And.intro Cc.out.1 (Kd.C_below Cc.out.2 hB)); have Cd := Aside0.mk (And.intro Cd.out.1 (Kd.C_below Cd.out.2 hB)); have Cg := Aside0.mk (Kd.R_reads' hv).2; clear hv hB)
        | (go_at_call 21; refine (ints_c Cd.out.2 Cd.out.1 Ci.out.2 Ci.out.1 (Nat.lt_of_le_of_lt (topL_len l 2) HQ.out)).mono ?_; rintro e wj ⟨rfl, hB⟩; have Mj := Aside0.mk (And.intro (Mi.out.1.keep hB.below) (Mi.out.2.keep hB.below)); clear hB)
        | (go_at_call 21; refine (ints_c Cc.out.2 Cc.out.1 Cg.out.2 Cg.out.1 (by rw [orderL_len]; exact HQ.out)).mono ?_; rintro e wh ⟨rfl, hB⟩; have Mh := Aside0.mk (And.intro (Mg.out.1.keep hB.below) (Mg.out.2.keep hB.below)); have Cd := Aside0.mk (And.intro Cd.out.1 (Kd.C_below Cd.out.2 hB.below)); clear hB)
        | (go_at_call 25; refine (top_r (HR0.out _ Mh.out.1.bel).1 (HR0.out _ Mh.out.1.bel).2 HQ.out).mono ?_; rintro e wi ⟨vi, rfl, hv, hB⟩; obtain ⟨Ai, ci2, rfl⟩ := Kd.R_slice hv; have Mi := Aside0.mk (And.intro (Mh.out.1.keep hB) (Mh.out.2.keep hB)); have Cd := Aside0.mk (And.intro Cd.out.1 (Kd.C_below Cd.out.2 hB)); have Ci := Aside0.mk (Kd.R_reads' hv).2; clear hv hB)
        -- APPENDS
        | (at_builtin; go_loud (refine wpList_append_keep Mj.out.1 (by decide) rfl (.tmp 100) (.tmp 104) 52 24 (.slice none 0 0) rfl Try.underlying52 infoRI rfl (by decide) [.slice Aa O.length ca, .slice Ac (orderL l).length cc, .slice Ad (topL l 2).length cd] 3 (by intro u hu; simp only [List.mem_cons, List.not_mem_nil, or_false] at hu; rcases hu with rfl | rfl | rfl <;> rfl) rfl rfl (by have := hj.out.1; have := hj.out.2.2.1; show (us.length + 3) * 24 ≤ _; omega) ?_); intro kO2 wk hk hg; have Mk := Aside0.mk (And.intro hk (Mj.out.2.grownO Mj.out.1.row (by decide) (by decide) hg hk.bel)); clear hk hg)
        | (at_builtin; go_loud (refine wpList_append_keep Mk.out.2 (by decide) rfl (.tmp 106) (.tmp 108) 53 24 (.slice none 0 0) rfl Try.underlying53 infoR64 rfl (by decide) [.slice Ab S.length cb] 1 (by intro u hu; rw [List.mem_singleton.1 hu]; rfl) rfl rfl (by have := hj.out.1; have := hj.out.2.2.2.1; show (vs.length + 1) * 24 ≤ _; omega) ?_); intro kS2 wl hk hg; have Ml := Aside0.mk (And.intro (Mk.out.1.grownO Mk.out.2.row (by decide) (by decide) hg hk.bel) hk); clear hk hg))
      go_roundg (4 - (i + 1))
      case measure => have := hj.out; omega
      case rel => exact ⟨i + 1, us ++ [.slice Aa O.length ca, .slice Ac (orderL l).length cc, .slice Ad (topL l 2).length cd], vs ++ [.slice Ab S.length cb], X ++ [O, orderL l, topL l 2], Y ++ [S], _, _, rfl, rfl, by go_num, ⟨by have := hj.out; omega, by have := hj.out; omega, by have := hj.out.2.2.1; rw [List.length_append]; show us.length + 3 = _; omega, by have := hj.out.2.2.2.1; rw [List.length_append]; show vs.length + 1 = _; omega, fun x hx => by
          rcases List.mem_append.1 hx with hx | hx
          · exact hj.out.2.2.2.2.1 x hx
          · simp only [List.mem_cons, List.not_mem_nil, or_false] at hx
            rcases hx with rfl | rfl | rfl
            · exact HOl.out
            · rw [orderL_len]; exact Nat.le_refl _
            · exact topL_len l 2, fun y hy => by
          rcases List.mem_append.1 hy with hy | hy
          · exact hj.out.2.2.2.2.2 y hy
          · rw [List.mem_singleton.1 hy]; exact HSl.out⟩, by
        have h := Ml.out
        rw [List.append_assoc, List.append_assoc, List.append_assoc, List.append_assoc] at h
        exact ⟨h⟩⟩
    · obtain ⟨hj1, hj2, hj3, hj4, hj5, hj6⟩ := hj.out
      obtain rfl : i = 3 := by omega
      have HX := Aside0.mk (show X.length = us.length ∧ us.length = 9 ∧ ∀ k, k < us.length → (X.getD k []).length ≤ l.length from by
        have h := M0.out.1.lot.len
        simp only [List.length_cons] at h
        exact ⟨by omega, by omega, fun k hk => by rw [List.getD_eq_getElem?_getD, List.getElem?_eq_getElem (by omega)]; exact hj5 _ (List.getElem_mem _)⟩)
      have HY := Aside0.mk (show Y.length = vs.length ∧ vs.length = 3 ∧ ∀ k, k < vs.length → (Y.getD k []).length ≤ l.length from by
        have h := M0.out.2.lot.len
        simp only [List.length_cons] at h
        exact ⟨by omega, by omega, fun k hk => by rw [List.getD_eq_getElem?_getD, List.getElem?_eq_getElem (by omega)]; exact hj6 _ (List.getElem_mem _)⟩)
      clear hj hj1 hj2 hj3 hj4 hj5 hj6 ci
      obtain ⟨AO, cO, rfl⟩ := own_slice M0.out.1.row
      obtain ⟨AS, cS, rfl⟩ := own_slice M0.out.2.row
      have M1 := M0
      clear M0
      go_wp2_with fail
      go_loopg [20] (us.length + 1) (fun kx s20 wr => ∃ i : Nat, s20 = .int .i64 (i : Int) ∧ Hid (i ≤ us.length ∧ us.length < i + kx) ∧ Aside0 (MM .i64 3 23 w wr (.slice A2 O.length c2 :: us) (O :: mk (fun k => -1 - (k : Int)) i X) (.slice AO us.length cO) us ∧ MM .i64 2 22 w wr (.slice A4 S.length c4 :: vs) (S :: Y) (.slice AS vs.length cS) vs))
      case atStart => exact ⟨0, rfl, ⟨by omega, by omega⟩, by rw [mk_zero]; exact M1⟩
      case round =>
        clear M1
        obtain ⟨i, rfl, hj, M1⟩ := hrel
        by_cases ci : i < us.length
        · have ci' : (i : Int) < (us.length : Int) := by omega
          have LI := Aside0.mk (show i < X.length by have := HX.out; omega)
          have LB := Aside0.mk (HX.out.2.2 i ci)
          obtain ⟨n, hn⟩ : ∃ n, n = (X.getD i []).length := ⟨_, rfl⟩
          have LN := Aside0.mk hn
          have M2 : Aside0 (MM .i64 3 23 w wr (.slice A2 O.length c2 :: us) (O :: mkj (fun k => -1 - (k : Int)) i 0 X) (.slice AO us.length cO) us ∧ MM .i64 2 22 w wr (.slice A4 S.length c4 :: vs) (S :: Y) (.slice AS vs.length cS) vs) := ⟨by rw [mkj_zero LI.out]; exact M1.out⟩
          clear M1 hn
          go_wp2_with fail
          go_loopg [21] (n + 1) (fun ky s21 wr => ∃ j : Nat, s21 = .int .i64 (j : Int) ∧ Hid (j ≤ n ∧ n < j + ky) ∧ Aside0 (MM .i64 3 23 w wr (.slice A2 O.length c2 :: us) (O :: mkj (fun k => -1 - (k : Int)) i j X) (.slice AO us.length cO) us ∧ MM .i64 2 22 w wr (.slice A4 S.length c4 :: vs) (S :: Y) (.slice AS vs.length cS) vs))
          case atStart => exact ⟨0, rfl, ⟨Nat.zero_le _, by omega⟩, M2⟩
          case round =>
            clear M2
            obtain ⟨j, rfl, hj2, M2⟩ := hrel
            obtain ⟨gk, ck, A, c, hk1, hk2, hk3, hk4, hk5, hk6, hk7⟩ := M2.out.1.at (i := i) (by rw [mkj_length]; exact LI.out)
            rw [mkj_len LI.out (by rw [← LN.out]; exact hj2.out.1), ← LN.out] at hk4 hk5 hk6
            injection hk1 with e1 e2 e3
            subst e1
            subst e3
            have i1 : (i : Int) < (us.length : Int) := by omega
            by_cases cj : j < n
            · have cj' : (j : Int) < (n : Int) := by omega
              obtain ⟨g, rfl, hg1, hg2, hg3, hg4⟩ := M2.out.1.num hk4 (j := j) (by rw [mkj_len LI.out (by rw [← LN.out]; exact hj2.out.1), ← LN.out]; exact cj)
              have hw : wrap64 (-1 - (i : Int)) = -1 - (i : Int) := by have := HX.out.2.1; unfold wrap64; omega
              have T3 := Aside0.mk (M2.out.1.mark (by decide) LI.out (show j < (X.getD i []).length by rw [← LN.out]; exact cj) hk4 (x := -1 - (i : Int)) rfl)
              have O3 := Aside0.mk (M2.out.2.setO (M2.out.1.lot.own (i + 1) _ _ hk4 (List.getElem?_eq_getElem (by rw [List.length_cons, mkj_length]; have := LI.out; omega))) (by decide) (by decide) hg1 j (.int .i64 (-1 - (i : Int))))
              go_wp2_with fail
              go_roundg (n + 1 - (j + 1))
              case measure => have := hj2.out; omega
              case rel => exact ⟨j + 1, congrArg (Value.int .i64) (by have := LB.out; have := LN.out; have := HQ.out; unfold wrap64; omega), ⟨by omega, by have := hj2.out; omega⟩, ⟨⟨T3.out, O3.out⟩⟩⟩
            · have e9 : j = n := by have := hj2.out; omega
              subst e9
              have M3 : Aside0 _ := Aside0.mk (And.intro M2.out.1 M2.out.2)
              rw [LN.out, mkj_full LI.out] at M3
              clear M2 cj
              go_wp2_with fail
              go_roundg (us.length + 1 - (i + 1))
              case measure => have := hj.out; omega
              case rel => exact ⟨i + 1, congrArg (Value.int .i64) (by have := HX.out; unfold wrap64; omega), ⟨by omega, by have := hj.out; omega⟩, M3⟩
        · obtain rfl : i = us.length := by have := hj.out; omega
          clear hj ci
          obtain ⟨X9, hX9⟩ : ∃ X9, X9 = mk (fun k => -1 - (k : Int)) us.length X := ⟨_, rfl⟩
          rw [← hX9] at M1
          have HX9 := Aside0.mk (show X9.length = us.length ∧ us.length = 9 ∧ ∀ k, k < us.length → (X9.getD k []).length ≤ l.length ∧ X9.getD k [] = List.replicate (X9.getD k []).length (-1 - (k : Int)) by
            rw [hX9]
            have h := HX.out
            exact ⟨by rw [mk_length]; omega, h.2.1, fun k hk => by have h2 := mk_at (f := (fun k => -1 - (k : Int))) (L := X) (i := us.length) k (by omega) hk; exact ⟨by rw [h2, List.length_replicate]; exact h.2.2 k hk, by rw [h2, List.length_replicate]⟩⟩)
          clear hX9 HX
          obtain ⟨X, hx⟩ : ∃ Z, Z = X9 := ⟨_, rfl⟩
          rw [← hx] at M1 HX9
          have HX := HX9
          clear hx HX9
          go_wp2_with fail
          go_loopg [22] (vs.length + 1) (fun kx s22 wr => ∃ i : Nat, s22 = .int .i64 (i : Int) ∧ Hid (i ≤ vs.length ∧ vs.length < i + kx) ∧ Aside0 (MM .i64 3 23 w wr (.slice A2 O.length c2 :: us) (O :: X) (.slice AO us.length cO) us ∧ MM .i64 2 22 w wr (.slice A4 S.length c4 :: vs) (S :: mk (fun k => -1 - (k : Int)) i Y) (.slice AS vs.length cS) vs))
          case atStart => exact ⟨0, rfl, ⟨by omega, by omega⟩, by rw [mk_zero]; exact M1⟩
          case round =>
            clear M1
            obtain ⟨i, rfl, hj, M1⟩ := hrel
            by_cases ci : i < vs.length
            · have ci' : (i : Int) < (vs.length : Int) := by omega
              have LI := Aside0.mk (show i < Y.length by have := HY.out; omega)
              have LB := Aside0.mk (HY.out.2.2 i ci)
              obtain ⟨n, hn⟩ : ∃ n, n = (Y.getD i []).length := ⟨_, rfl⟩
              have LN := Aside0.mk hn
              have M2 : Aside0 (MM .i64 3 23 w wr (.slice A2 O.length c2 :: us) (O :: X) (.slice AO us.length cO) us ∧ MM .i64 2 22 w wr (.slice A4 S.length c4 :: vs) (S :: mkj (fun k => -1 - (k : Int)) i 0 Y) (.slice AS vs.length cS) vs) := ⟨by rw [mkj_zero LI.out]; exact M1.out⟩
              clear M1 hn
              go_wp2_with fail
              go_loopg [23] (n + 1) (fun ky s23 wr => ∃ j : Nat, s23 = .int .i64 (j : Int) ∧ Hid (j ≤ n ∧ n < j + ky) ∧ Aside0 (MM .i64 3 23 w wr (.slice A2 O.length c2 :: us) (O :: X) (.slice AO us.length cO) us ∧ MM .i64 2 22 w wr (.slice A4 S.length c4 :: vs) (S :: mkj (fun k => -1 - (k : Int)) i j Y) (.slice AS vs.length cS) vs))
              case atStart => exact ⟨0, rfl, ⟨Nat.zero_le _, by omega⟩, M2⟩
              case round =>
                clear M2
                obtain ⟨j, rfl, hj2, M2⟩ := hrel
                obtain ⟨gk, ck, A, c, hk1, hk2, hk3, hk4, hk5, hk6, hk7⟩ := M2.out.2.at (i := i) (by rw [mkj_length]; exact LI.out)
                rw [mkj_len LI.out (by rw [← LN.out]; exact hj2.out.1), ← LN.out] at hk4 hk5 hk6
                injection hk1 with e1 e2 e3
                subst e1
                subst e3
                have i1 : (i : Int) < (vs.length : Int) := by omega
                by_cases cj : j < n
                · have cj' : (j : Int) < (n : Int) := by omega
                  obtain ⟨g, rfl, hg1, hg2, hg3, hg4⟩ := M2.out.2.num hk4 (j := j) (by rw [mkj_len LI.out (by rw [← LN.out]; exact hj2.out.1), ← LN.out]; exact cj)
                  have hw : wrap64 (-1 - (i : Int)) = -1 - (i : Int) := by have := HY.out.2.1; unfold wrap64; omega
                  have T3 := Aside0.mk (M2.out.2.mark (by decide) LI.out (show j < (Y.getD i []).length by rw [← LN.out]; exact cj) hk4 (x := -1 - (i : Int)) rfl)
                  have O3 := Aside0.mk (M2.out.1.setO (M2.out.2.lot.own (i + 1) _ _ hk4 (List.getElem?_eq_getElem (by rw [List.length_cons, mkj_length]; have := LI.out; omega))) (by decide) (by decide) hg1 j (.int .i64 (-1 - (i : Int))))
                  go_wp2_with fail
                  go_roundg (n + 1 - (j + 1))
                  case measure => have := hj2.out; omega
                  case rel => exact ⟨j + 1, congrArg (Value.int .i64) (by have := LB.out; have := LN.out; have := HQ.out; unfold wrap64; omega), ⟨by omega, by have := hj2.out; omega⟩, ⟨⟨O3.out, T3.out⟩⟩⟩
                · have e9 : j = n := by have := hj2.out; omega
                  subst e9
                  have M3 : Aside0 _ := Aside0.mk (And.intro M2.out.1 M2.out.2)
                  rw [LN.out, mkj_full LI.out] at M3
                  clear M2 cj
                  go_wp2_with fail
                  go_roundg (vs.length + 1 - (i + 1))
                  case measure => have := hj.out; omega
                  case rel => exact ⟨i + 1, congrArg (Value.int .i64) (by have := HY.out; unfold wrap64; omega), ⟨by omega, by have := hj.out; omega⟩, M3⟩
            · obtain rfl : i = vs.length := by have := hj.out; omega
              clear hj ci
              obtain ⟨X9, hX9⟩ : ∃ X9, X9 = mk (fun k => -1 - (k : Int)) vs.length Y := ⟨_, rfl⟩
              rw [← hX9] at M1
              have HY9 := Aside0.mk (show X9.length = vs.length ∧ vs.length = 3 ∧ ∀ k, k < vs.length → (X9.getD k []).length ≤ l.length ∧ X9.getD k [] = List.replicate (X9.getD k []).length (-1 - (k : Int)) by
                rw [hX9]
                have h := HY.out
                exact ⟨by rw [mk_length]; omega, h.2.1, fun k hk => by have h2 := mk_at (f := (fun k => -1 - (k : Int))) (L := Y) (i := vs.length) k (by omega) hk; exact ⟨by rw [h2, List.length_replicate]; exact h.2.2 k hk, by rw [h2, List.length_replicate]⟩⟩)
              clear hX9 HY
              obtain ⟨Y, hx⟩ : ∃ Z, Z = X9 := ⟨_, rfl⟩
              rw [← hx] at M1 HY9
              have HY := HY9
              clear hx HY9
              go_wp2_with fail
              go_loopg [24] (us.length + 1) (fun kx s24 wr => ∃ i : Nat, s24 = .int .i64 (i : Int) ∧ Hid (i ≤ us.length ∧ us.length < i + kx) ∧ Aside0 (MM .i64 3 23 w wr (.slice A2 O.length c2 :: us) (O :: X) (.slice AO us.length cO) us ∧ MM .i64 2 22 w wr (.slice A4 S.length c4 :: vs) (S :: Y) (.slice AS vs.length cS) vs))
              case atStart => exact ⟨0, rfl, ⟨by omega, by omega⟩, M1⟩
              case round =>
                clear M1
                obtain ⟨i, rfl, hj, M2⟩ := hrel
                by_cases ci : i < us.length
                · have ci' : (i : Int) < (us.length : Int) := by omega
                  have LI := Aside0.mk (show i < X.length by have := HX.out; omega)
                  have LB := Aside0.mk (HX.out.2.2 i ci).1
                  obtain ⟨ys, hys⟩ : ∃ ys, ys = X.getD i [] := ⟨_, rfl⟩
                  have LN := Aside0.mk hys
                  clear hys
                  obtain ⟨gk, ck, A, c, hk1, hk2, hk3, hk4, hk5, hk6, hk7⟩ := M2.out.1.at (i := i) (by exact LI.out)
                  rw [← LN.out] at hk4 hk5 hk6
                  injection hk1 with e1 e2 e3
                  subst e1
                  subst e3
                  have i1 : (i : Int) < (us.length : Int) := by omega
                  have G0 : Aside0 (GG .i64 3 23 w wr (.slice A2 O.length c2 :: us) (O :: X) (.slice (some ⟨gk, 0, none⟩) us.length cO) us (.slice A ys.length c) (ys ++ List.replicate 0 77) ∧ MM .i64 2 22 w wr (.slice A4 S.length c4 :: vs) (S :: Y) (.slice AS vs.length cS) vs) := ⟨by
                    have h := GG.start (xs := ys) M2.out.1 (i := i + 1) hk4 (show X[i]? = some ys by rw [LN.out, List.getD_eq_getElem?_getD, List.getElem?_eq_getElem LI.out]; rfl)
                    rw [List.replicate_zero, List.append_nil]
                    exact ⟨h, M2.out.2⟩⟩
                  clear M2
                  go_wp2_with fail
                  go_loopg [25, 26] 21 (fun ky s25 s26 wr => ∃ (j : Nat) (gv : Value), gv = s25 ∧ s26 = .int .i64 (j : Int) ∧ Hid (j ≤ 20 ∧ 20 < j + ky) ∧ Aside0 (GG .i64 3 23 w wr (.slice A2 O.length c2 :: us) (O :: X) (.slice (some ⟨gk, 0, none⟩) us.length cO) us gv (ys ++ List.replicate j 77) ∧ MM .i64 2 22 w wr (.slice A4 S.length c4 :: vs) (S :: Y) (.slice AS vs.length cS) vs))
                  case atStart => exact ⟨0, _, rfl, rfl, ⟨by omega, by omega⟩, G0⟩
                  case round =>
                    clear G0
                    obtain ⟨j, gv, rfl, rfl, hj2, G1⟩ := hrel
                    by_cases cj : j < 20
                    · have cj' : (j : Int) < 20 := by omega
                      go_wp2_with (at_builtin; go_loud (refine wpList_append_kept2 G1.out.1 (by decide) rfl (.tmp 170) (.tmp 171) 23 8 rfl Try.underlying23 infoI (by decide) 77 rfl rfl (by have := hj2.out; have := LB.out; have := LN.out; have := HQ0.out; rw [List.length_append, List.length_replicate, LN.out]; omega) ?_); intro gv2 w7 hG2 hg7; rw [List.append_assoc, ← List.replicate_succ'] at hG2; have G2 := Aside0.mk (And.intro hG2 (G1.out.2.grownO G1.out.1.own (by decide) (by decide) hg7 hG2.mm.bel)); clear hG2 hg7)
                      go_roundg (21 - (j + 1))
                      case measure => have := hj2.out; omega
                      case rel => exact ⟨j + 1, _, rfl, by go_num, ⟨by omega, by have := hj2.out; omega⟩, G2⟩
                    · obtain rfl : j = 20 := by have := hj2.out; omega
                      have M3 := Aside0.mk (And.intro G1.out.1.mm G1.out.2)
                      clear G1 cj
                      go_wp2_with fail
                      go_roundg (us.length + 1 - (i + 1))
                      case measure => have := hj.out; omega
                      case rel => exact ⟨i + 1, congrArg (Value.int .i64) (by have := HX.out; unfold wrap64; omega), ⟨by omega, by have := hj.out; omega⟩, M3⟩
                · obtain rfl : i = us.length := by have := hj.out; omega
                  have M1 := M2
                  clear hj ci M2
                  go_wp2_with fail
                  go_loopg [27] (vs.length + 1) (fun kx s27 wr => ∃ i : Nat, s27 = .int .i64 (i : Int) ∧ Hid (i ≤ vs.length ∧ vs.length < i + kx) ∧ Aside0 (MM .i64 3 23 w wr (.slice A2 O.length c2 :: us) (O :: X) (.slice AO us.length cO) us ∧ MM .i64 2 22 w wr (.slice A4 S.length c4 :: vs) (S :: Y) (.slice AS vs.length cS) vs))
                  case atStart => exact ⟨0, rfl, ⟨by omega, by omega⟩, M1⟩
                  case round =>
                    clear M1
                    obtain ⟨i, rfl, hj, M2⟩ := hrel
                    by_cases ci : i < vs.length
                    · have ci' : (i : Int) < (vs.length : Int) := by omega
                      have LI := Aside0.mk (show i < Y.length by have := HY.out; omega)
                      have LB := Aside0.mk (HY.out.2.2 i ci).1
                      obtain ⟨ys, hys⟩ : ∃ ys, ys = Y.getD i [] := ⟨_, rfl⟩
                      have LN := Aside0.mk hys
                      clear hys
                      obtain ⟨gk, ck, A, c, hk1, hk2, hk3, hk4, hk5, hk6, hk7⟩ := M2.out.2.at (i := i) (by exact LI.out)
                      rw [← LN.out] at hk4 hk5 hk6
                      injection hk1 with e1 e2 e3
                      subst e1
                      subst e3
                      have i1 : (i : Int) < (vs.length : Int) := by omega
                      have G0 : Aside0 (GG .i64 2 22 w wr (.slice A4 S.length c4 :: vs) (S :: Y) (.slice (some ⟨gk, 0, none⟩) vs.length cS) vs (.slice A ys.length c) (ys ++ List.replicate 0 77) ∧ MM .i64 3 23 w wr (.slice A2 O.length c2 :: us) (O :: X) (.slice AO us.length cO) us) := ⟨by
                        have h := GG.start (xs := ys) M2.out.2 (i := i + 1) hk4 (show Y[i]? = some ys by rw [LN.out, List.getD_eq_getElem?_getD, List.getElem?_eq_getElem LI.out]; rfl)
                        rw [List.replicate_zero, List.append_nil]
                        exact ⟨h, M2.out.1⟩⟩
                      clear M2
                      go_wp2_with fail
                      go_loopg [28, 29] 21 (fun ky s28 s29 wr => ∃ (j : Nat) (gv : Value), gv = s28 ∧ s29 = .int .i64 (j : Int) ∧ Hid (j ≤ 20 ∧ 20 < j + ky) ∧ Aside0 (GG .i64 2 22 w wr (.slice A4 S.length c4 :: vs) (S :: Y) (.slice (some ⟨gk, 0, none⟩) vs.length cS) vs gv (ys ++ List.replicate j 77) ∧ MM .i64 3 23 w wr (.slice A2 O.length c2 :: us) (O :: X) (.slice AO us.length cO) us))
                      case atStart => exact ⟨0, _, rfl, rfl, ⟨by omega, by omega⟩, G0⟩
                      case round =>
                        clear G0
                        obtain ⟨j, gv, rfl, rfl, hj2, G1⟩ := hrel
                        by_cases cj : j < 20
                        · have cj' : (j : Int) < 20 := by omega
                          go_wp2_with (at_builtin; go_loud (refine wpList_append_kept2 G1.out.1 (by decide) rfl (.tmp 187) (.tmp 188) 22 8 rfl Try.underlying22 info64 (by decide) 77 rfl rfl (by have := hj2.out; have := LB.out; have := LN.out; have := HQ0.out; rw [List.length_append, List.length_replicate, LN.out]; omega) ?_); intro gv2 w7 hG2 hg7; rw [List.append_assoc, ← List.replicate_succ'] at hG2; have G2 := Aside0.mk (And.intro hG2 (G1.out.2.grownO G1.out.1.own (by decide) (by decide) hg7 hG2.mm.bel)); clear hG2 hg7)
                          go_roundg (21 - (j + 1))
                          case measure => have := hj2.out; omega
                          case rel => exact ⟨j + 1, _, rfl, by go_num, ⟨by omega, by have := hj2.out; omega⟩, G2⟩
                        · obtain rfl : j = 20 := by have := hj2.out; omega
                          have M3 := Aside0.mk (And.intro G1.out.2 G1.out.1.mm)
                          clear G1 cj
                          go_wp2_with fail
                          go_roundg (vs.length + 1 - (i + 1))
                          case measure => have := hj.out; omega
                          case rel => exact ⟨i + 1, congrArg (Value.int .i64) (by have := HY.out; unfold wrap64; omega), ⟨by omega, by have := hj.out; omega⟩, M3⟩
                    · obtain rfl : i = vs.length := by have := hj.out; omega
                      have M1 := M2
                      clear hj ci M2
                      go_wp2_with fail
                      go_loopg [30] (us.length + 1) (fun kx s30 wr => ∃ i : Nat, s30 = .int .i64 (i : Int) ∧ Hid (i ≤ us.length ∧ us.length < i + kx) ∧ Aside0 (MM .i64 3 23 w wr (.slice A2 O.length c2 :: us) (O :: X) (.slice AO us.length cO) us ∧ MM .i64 2 22 w wr (.slice A4 S.length c4 :: vs) (S :: Y) (.slice AS vs.length cS) vs))
                      case atStart => exact ⟨0, rfl, ⟨by omega, by omega⟩, M1⟩
                      case round =>
                        clear M1
                        obtain ⟨i, rfl, hj, M1⟩ := hrel
                        by_cases ci : i < us.length
                        · have ci' : (i : Int) < (us.length : Int) := by omega
                          have LI := Aside0.mk (show i < X.length by have := HX.out; omega)
                          have LB := Aside0.mk (HX.out.2.2 i ci)
                          obtain ⟨n, hn⟩ : ∃ n, n = (X.getD i []).length := ⟨_, rfl⟩
                          have LN := Aside0.mk hn
                          clear hn
                          go_wp2_with fail
                          go_loopg [31] (n + 1) (fun ky s31 wr => ∃ j : Nat, s31 = .int .i64 (j : Int) ∧ Hid (j ≤ n ∧ n < j + ky) ∧ Aside0 (MM .i64 3 23 w wr (.slice A2 O.length c2 :: us) (O :: X) (.slice AO us.length cO) us ∧ MM .i64 2 22 w wr (.slice A4 S.length c4 :: vs) (S :: Y) (.slice AS vs.length cS) vs))
                          case atStart => exact ⟨0, rfl, ⟨Nat.zero_le _, by omega⟩, M1⟩
                          case round =>
                            clear M1
                            obtain ⟨j, rfl, hj2, M2⟩ := hrel
                            obtain ⟨gk, ck, A, c, hk1, hk2, hk3, hk4, hk5, hk6, hk7⟩ := M2.out.1.at (i := i) (by exact LI.out)
                            rw [← LN.out] at hk4 hk5 hk6
                            injection hk1 with e1 e2 e3
                            subst e1
                            subst e3
                            have i1 : (i : Int) < (us.length : Int) := by omega
                            by_cases cj : j < n
                            · have cj' : (j : Int) < (n : Int) := by omega
                              obtain ⟨g, rfl, hg1, hg2, hg3, hg4⟩ := M2.out.1.num hk4 (j := j) (by rw [← LN.out]; exact cj)
                              rw [LB.out.2, ← LN.out, List.getD_eq_getElem?_getD, List.getElem?_eq_getElem (by rw [List.length_replicate]; exact cj), List.getElem_replicate, Option.getD_some] at hg3
                              have hw : wrap64 (-1 - (i : Int)) = -1 - (i : Int) := by have := HX.out.2.1; unfold wrap64; omega
                              go_wp2_with fail
                              go_roundg (n + 1 - (j + 1))
                              case measure => have := hj2.out; omega
                              case rel => exact ⟨j + 1, congrArg (Value.int .i64) (by have := LB.out.1; have := LN.out; have := HQ.out; unfold wrap64; omega), ⟨by omega, by have := hj2.out; omega⟩, M2⟩
                            · have e9 : j = n := by have := hj2.out; omega
                              subst e9
                              clear cj
                              go_wp2_with fail
                              go_roundg (us.length + 1 - (i + 1))
                              case measure => have := hj.out; omega
                              case rel => exact ⟨i + 1, congrArg (Value.int .i64) (by have := HX.out; unfold wrap64; omega), ⟨by omega, by have := hj.out; omega⟩, M2⟩
                        · obtain rfl : i = us.length := by have := hj.out; omega
                          clear hj ci
                          go_wp2_with fail
                          go_loopg [32] (vs.length + 1) (fun kx s32 wr => ∃ i : Nat, s32 = .int .i64 (i : Int) ∧ Hid (i ≤ vs.length ∧ vs.length < i + kx) ∧ Aside0 (MM .i64 3 23 w wr (.slice A2 O.length c2 :: us) (O :: X) (.slice AO us.length cO) us ∧ MM .i64 2 22 w wr (.slice A4 S.length c4 :: vs) (S :: Y) (.slice AS vs.length cS) vs))
                          case atStart => exact ⟨0, rfl, ⟨by omega, by omega⟩, M1⟩
                          case round =>
                            clear M1
                            obtain ⟨i, rfl, hj, M1⟩ := hrel
                            by_cases ci : i < vs.length
                            · have ci' : (i : Int) < (vs.length : Int) := by omega
                              have LI := Aside0.mk (show i < Y.length by have := HY.out; omega)
                              have LB := Aside0.mk (HY.out.2.2 i ci)
                              obtain ⟨n, hn⟩ : ∃ n, n = (Y.getD i []).length := ⟨_, rfl⟩
                              have LN := Aside0.mk hn
                              clear hn
                              go_wp2_with fail
                              go_loopg [33] (n + 1) (fun ky s33 wr => ∃ j : Nat, s33 = .int .i64 (j : Int) ∧ Hid (j ≤ n ∧ n < j + ky) ∧ Aside0 (MM .i64 3 23 w wr (.slice A2 O.length c2 :: us) (O :: X) (.slice AO us.length cO) us ∧ MM .i64 2 22 w wr (.slice A4 S.length c4 :: vs) (S :: Y) (.slice AS vs.length cS) vs))
                              case atStart => exact ⟨0, rfl, ⟨Nat.zero_le _, by omega⟩, M1⟩
                              case round =>
                                clear M1
                                obtain ⟨j, rfl, hj2, M2⟩ := hrel
                                obtain ⟨gk, ck, A, c, hk1, hk2, hk3, hk4, hk5, hk6, hk7⟩ := M2.out.2.at (i := i) (by exact LI.out)
                                rw [← LN.out] at hk4 hk5 hk6
                                injection hk1 with e1 e2 e3
                                subst e1
                                subst e3
                                have i1 : (i : Int) < (vs.length : Int) := by omega
                                by_cases cj : j < n
                                · have cj' : (j : Int) < (n : Int) := by omega
                                  obtain ⟨g, rfl, hg1, hg2, hg3, hg4⟩ := M2.out.2.num hk4 (j := j) (by rw [← LN.out]; exact cj)
                                  rw [LB.out.2, ← LN.out, List.getD_eq_getElem?_getD, List.getElem?_eq_getElem (by rw [List.length_replicate]; exact cj), List.getElem_replicate, Option.getD_some] at hg3
                                  have hw : wrap64 (-1 - (i : Int)) = -1 - (i : Int) := by have := HY.out.2.1; unfold wrap64; omega
                                  go_wp2_with fail
                                  go_roundg (n + 1 - (j + 1))
                                  case measure => have := hj2.out; omega
                                  case rel => exact ⟨j + 1, congrArg (Value.int .i64) (by have := LB.out.1; have := LN.out; have := HQ.out; unfold wrap64; omega), ⟨by omega, by have := hj2.out; omega⟩, M2⟩
                                · have e9 : j = n := by have := hj2.out; omega
                                  subst e9
                                  clear cj
                                  go_wp2_with fail
                                  go_roundg (vs.length + 1 - (i + 1))
                                  case measure => have := hj.out; omega
                                  case rel => exact ⟨i + 1, congrArg (Value.int .i64) (by have := HY.out; unfold wrap64; omega), ⟨by omega, by have := hj.out; omega⟩, M2⟩
                            · obtain rfl : i = vs.length := by have := hj.out; omega
                              clear hj ci
                              go_wp2_with fail
                              refine (nuc_c (HR0.out _ M1.out.1.bel).1 (HR0.out _ M1.out.1.bel).2 HQ.out HO.out).mono ?_
                              rintro e wa ⟨va, rfl, hv, hB⟩
                              obtain ⟨Aa, ca, rfl⟩ := Kd.R_slice hv
                              have Ma := Aside0.mk (And.intro (M1.out.1.keep hB) (M1.out.2.keep hB))
                              have Ca := Aside0.mk (Kd.R_reads' hv).2
                              clear hv hB M1
                              go_wp2_with (first
                                | (go_at_call 16; refine (share_c (HR0.out _ Ma.out.1.bel).1 (HR0.out _ Ma.out.1.bel).2 HQ.out HS.out).mono ?_; rintro e wb ⟨vb, rfl, hv, hB⟩; obtain ⟨Ab, cb, rfl⟩ := Kd.R_slice hv; have Mb := Aside0.mk (And.intro (Ma.out.1.keep hB) (Ma.out.2.keep hB)); have Ca := Aside0.mk (And.intro Ca.out.1 (Kd.C_below Ca.out.2 hB)); have Cb := Aside0.mk (Kd.R_reads' hv).2; clear hv hB)
                                | (go_at_call 15; refine awake_c.mono ?_; rintro e wc ⟨rfl, hB⟩; have Mc := Aside0.mk (And.intro (Mb.out.1.keep hB) (Mb.out.2.keep hB)); have Ca := Aside0.mk (And.intro Ca.out.1 (Kd.C_below Ca.out.2 hB)); have Cb := Aside0.mk (And.intro Cb.out.1 (Kd.C_below Cb.out.2 hB)); clear hB)
                                | (go_at_call 21; refine (ints_c Ca.out.2 Ca.out.1 (Mc.out.1.lot.C (i := 0) rfl rfl).2.2 (Mc.out.1.lot.C (i := 0) rfl rfl).2.1 (Nat.lt_of_le_of_lt HOl.out HQ.out)).mono ?_; rintro e wd ⟨rfl, hB⟩; have Md := Aside0.mk (And.intro (Mc.out.1.keep hB.below) (Mc.out.2.keep hB.below)); have Cb := Aside0.mk (And.intro Cb.out.1 (Kd.C_below Cb.out.2 hB.below)); clear hB)
                                | (go_at_call 18; refine (longs_c Cb.out.2 Cb.out.1 (Md.out.2.lot.C (i := 0) rfl rfl).2.2 (Md.out.2.lot.C (i := 0) rfl rfl).2.1 (Nat.lt_of_le_of_lt HSl.out HQ.out)).mono ?_; rintro e we ⟨rfl, hB⟩; have Me := Aside0.mk (Md.out.1.keep hB.below); clear hB))
                              go_ret
                              exact ⟨rfl, Me.out.bel⟩
end Go.Proofs.Ytfegaffcalpmbaa.Rm
