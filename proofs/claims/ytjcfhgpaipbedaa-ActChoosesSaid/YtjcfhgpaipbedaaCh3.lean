/- act.Choose's walk. -/
import Derived.Deep.RegionHeld3
import Derived.Deep.LoopGhost
import Derived.Sort.LoopGhostIn
import Derived.Lib.Hide
import Derived.Test.YtjcfhgpaipbedaaCh4
import Derived.Test.YtjcfhgpaipbedaaCh2
import Derived.Test.YtjcfhgpaipbedaaA18
namespace Go.Proofs.Ytjcfhgpaipbedaa.Ch
set_option linter.unusedVariables false
open Go.Proofs Go.Shelf Go.RowKit Go.Lib Go.Sort Go.Proofs.YtjcfhgpaipbedaaW.PrintWords Go.Proofs.YtjcfhgpaipbedaaW.PrintLast Go.Proofs.YtjcfhgpaipbedaaW.PrintMore Go.Proofs.Ytjcfhgpaipbedaa.A Go.Proofs.Ytjcfhgpaipbedaa.St Go.Proofs.Ytjcfhgpaipbedaa.Pure
attribute [local go_sem] Oper.semAt_some
theorem info64 : (Try.prog.info? 2).map (fun i => (i.zero, i.size, i.bytes)) = some (some (.int .i64 0), 1, 8) := by kernel_rfl
theorem infoI : (Try.prog.info? 3).map (fun i => (i.zero, i.size, i.bytes)) = some (some (.int .i64 0), 1, 8) := by kernel_rfl
theorem own_of_R' {e base : Nat} {ok : Nat → Prop} {w : World} {v : Value} {xs : List Int} (h : Kd.R (Kd.int .i64) e w base ok v xs) : w.ownsRow base e 1 v xs.length (nums .i64 xs) := Kd.own_of_R h
theorem cells_at {w : World} {b : Nat} {cs : Array Value} {t : TypeId} (h : w.heap[b]? = some (.cells cs t (0, 0))) (j : Nat) (u : Value) (hu : cs[j]? = some u) : w.cell? ⟨b, j, none⟩ = some u := by
  rw [cell_of_row w b j _ _ (0, 0) h]; exact hu
section
variable {w : World} {A0 A1 : Option Addr} {c0 c1 : Nat} {r h : List Int} {s : Int} {R : List Int} {E : Int}
theorem times_c (hr0 : Kd.C (Kd.int .i8) w A0 r.length r) (hc0 : r.length ≤ c0) (hr1 : Kd.C (Kd.int .i8) w A1 h.length h) (hc1 : h.length ≤ c1) (hE : timesL r h.length h = (R, E)) :
    Calls Try.prog 31 #[.slice A0 r.length c0, .int .i64 (h.length : Int), .slice A1 h.length c1] w fun e w' => ∃ v : Value, e = .returned (.tuple #[v, .int .i64 E]) ∧ Kd.R (Kd.int .i64) 2 w' w.heap.size (fun _ => True) v R ∧ Below w.heap.size w w' :=
  vec_Times.calls A0 c0 r _ A1 c1 h R E w hr0 hc0 hr1 hc1 (by rw [own_times, hE])
theorem scale_c {v : Value} {ok : Nat → Prop} {base : Nat} (hv : Kd.R (Kd.int .i64) 2 w base ok v r) (hE : scaleL r s = (R, E)) :
    Calls Try.prog 32 #[v, .int .i64 s] w fun e w' => ∃ v : Value, e = .returned (.tuple #[v, .int .i64 E]) ∧ Kd.R (Kd.int .i64) 2 w' w.heap.size (fun _ => True) v R ∧ Below w.heap.size w w' := by
  obtain ⟨A, c, rfl⟩ := Kd.R_slice hv
  obtain ⟨K, hK⟩ := own_scale r s
  refine (vec_Scale.calls K ok A c r s R E w (Kd.R_V hv) (by rw [← hE]; exact hK K (Nat.le_refl _))).mono ?_
  rintro e w' ⟨v, rfl, hv, hB⟩
  exact ⟨v, rfl, Kd.R_mono hv (fun _ _ => trivial), hB⟩
end
theorem box_facts {w : World} {b t : Nat} {v : Value} (h : w.heap[b]? = some (.cells #[v] t (0, 0))) : w.cell? ⟨b, 0, none⟩ = some v ∧ w.frozen? ⟨b, 0, none⟩ = false := by
  refine ⟨cells_at h 0 v rfl, ?_⟩
  unfold World.frozen?
  rw [h]
  simp
theorem below_set {w W : World} {a : Addr} (h : Below w.heap.size w W) (ha : w.heap.size ≤ a.block) (u : Value) : Below w.heap.size w (W.setCell a u) :=
  ⟨h.os, h.tape, h.output, by simpa using h.size, fun k hk => by rw [Below.heap_setCell W a u k (by omega)]; exact h.block k hk⟩
theorem wrap_eq (x : Int) : IntKind.i64.wrap x = wrap64 x := by rw [IntKind.wrap_i64, wrap64]
theorem exp_c (x y : Int) (w : World) : Calls Try.prog 38 #[.int .i64 (IntKind.i64.wrap (256 * IntKind.i64.wrap (x - y)))] w fun e w' => e = .returned (.int .i64 (expF (wrap64 (256 * wrap64 (x - y))))) ∧ Below w.heap.size w w' := by
  rw [wrap_eq, wrap_eq]
  exact exp_calls _ w (by unfold wrap64; omega)
theorem pow_at (s o : List Int) (j : Nat) (hj : j < o.length) : (powL s o).getD j 0 = expF (wrap64 (256 * wrap64 (s.getD (o.getD j 0).toNat 0 - s.getD (o.getD 0 0).toNat 0))) := by
  have key : ∀ (f : Int → Int), (o.map f).getD j 0 = f (o.getD j 0) := fun f => by
    rw [List.getD_eq_getElem?_getD, List.getElem?_map, List.getD_eq_getElem?_getD, List.getElem?_eq_getElem hj]
    rfl
  exact key _
theorem take_next (P : List Int) (j : Nat) (hj : j < P.length) : P.take (j + 1) = P.take j ++ [P.getD j 0] := by
  rw [List.take_succ_eq_append_getElem hj, List.getD_eq_getElem?_getD, List.getElem?_eq_getElem hj]
  rfl
/-- The box of the scores. -/
structure Lx (w W : World) (bx : Nat) (v : Value) : Prop where
  blk : W.heap[bx]? = some (.cells #[v] 38 (0, 0))
  bel : Below w.heap.size w W
  ge : w.heap.size ≤ bx


set_option maxRecDepth 100000 in
set_option maxHeartbeats 1000000 in
theorem choose_calls (A0 : Option Addr) (c0 : Nat) (r : List Int) (A1 : Option Addr) (c1 : Nat) (h : List Int) (s k : Int) (w : World) (hr0 : Kd.C (Kd.int .i8) w A0 r.length r) (hc0 : r.length ≤ c0) (hr1 : Kd.C (Kd.int .i8) w A1 h.length h) (hc1 : h.length ≤ c1) {O P : List Int} {E : Int} (hE : chooseL r h s k = (O, P, E)) :
    Calls Try.prog 22 #[.slice A0 r.length c0, .slice A1 h.length c1, .int .i64 s, .int .i64 k] w fun e w' => ∃ v1 v2 : Value, e = .returned (.tuple #[v1, v2, .int .i64 E]) ∧ (∃ A c, v1 = .slice A O.length c ∧ O.length ≤ c ∧ Kd.C (Kd.int .i64) w' A O.length O) ∧ Kd.R (Kd.int .i64) 2 w' w.heap.size (fun _ => True) v2 P ∧ Below w.heap.size w w' := by
  have HR0 := Aside0.mk (fun W (hB : Below w.heap.size w W) => And.intro (Kd.C_below hr0 hB) hc0)
  have HR1 := Aside0.mk (fun W (hB : Below w.heap.size w W) => And.intro (Kd.C_below hr1 hB) hc1)
  have HE := Aside0.mk hE
  obtain ⟨T, TE, hT⟩ : ∃ T TE, timesL r h.length h = (T, TE) := ⟨_, _, rfl⟩
  obtain ⟨L, LE, hL⟩ : ∃ L LE, scaleL T s = (L, LE) := ⟨_, _, rfl⟩
  have HT := Aside0.mk hT
  have HL := Aside0.mk hL
  have HEV := Aside0.mk (show chooseL r h s k = if TE ≠ 0 then ([], [], TE) else if LE ≠ 0 then ([], [], LE) else if k < 1 ∨ k > (L.length : Int) then ([], [], 121) else ((orderL L).take k.toNat, wholeL (powL L ((orderL L).take k.toNat)), 0) by unfold chooseL; rw [hT]; simp only [hL])
  clear hr0 hc0 hr1 hc1 hE hT hL
  go_enter Try.func22, Try.ntmps22
  by_cases cTE : TE ≠ 0
  · have z1 : (TE != 0) = true := bne_iff_ne.2 cTE
    have HV := Aside0.mk (show O = [] ∧ P = [] ∧ E = TE by have h1 := HEV.out; rw [if_pos cTE, HE.out] at h1; injection h1 with e1 e2; injection e2 with e2 e3; exact ⟨e1, e2, e3⟩)
    clear cTE
    go_wp2_with (go_at_call 31; refine (times_c (HR0.out _ (by first | exact Below.refl _ _ | exact below_alloc (Below.refl _ _) _)).1 (HR0.out _ (by first | exact Below.refl _ _ | exact below_alloc (Below.refl _ _) _)).2 (HR1.out _ (by first | exact Below.refl _ _ | exact below_alloc (Below.refl _ _) _)).1 (HR1.out _ (by first | exact Below.refl _ _ | exact below_alloc (Below.refl _ _) _)).2 HT.out).mono ?_; rintro e w1 ⟨v1, rfl, hv1, hB1⟩; obtain ⟨AT, cT, rfl⟩ := Kd.R_slice hv1; have B1 := Aside0.mk (And.intro hv1 hB1); clear hv1 hB1)
    go_ret3
    obtain ⟨rfl, rfl, rfl⟩ := HV.out
    exact ⟨_, _, rfl, ⟨none, 0, rfl, Nat.le_refl _, Kd.C_nil _ _⟩, Kd.R_nil _ _ _ _ _, by first | exact B1.out.2 | exact below_alloc B1.out.2 _⟩
  · have z1 : (TE != 0) = false := by simpa using cTE
    by_cases cLE : LE ≠ 0
    · have z2 : (LE != 0) = true := bne_iff_ne.2 cLE
      have HV := Aside0.mk (show O = [] ∧ P = [] ∧ E = LE by have h1 := HEV.out; rw [if_neg cTE, if_pos cLE, HE.out] at h1; injection h1 with e1 e2; injection e2 with e2 e3; exact ⟨e1, e2, e3⟩)
      clear cTE cLE
      go_wp2_with (go_at_call 31; refine (times_c (HR0.out _ (by first | exact Below.refl _ _ | exact below_alloc (Below.refl _ _) _)).1 (HR0.out _ (by first | exact Below.refl _ _ | exact below_alloc (Below.refl _ _) _)).2 (HR1.out _ (by first | exact Below.refl _ _ | exact below_alloc (Below.refl _ _) _)).1 (HR1.out _ (by first | exact Below.refl _ _ | exact below_alloc (Below.refl _ _) _)).2 HT.out).mono ?_; rintro e w1 ⟨v1, rfl, hv1, hB1⟩; obtain ⟨AT, cT, rfl⟩ := Kd.R_slice hv1; have B1 := Aside0.mk (And.intro hv1 hB1); clear hv1 hB1)
      have HX := Aside0.mk (heap_alloc_new w1 (.cells #[.slice AT T.length cT] 38))
      refine (scale_c (Kd.R_below B1.out.1 (below_alloc (Below.refl _ w1) _)) HL.out).mono ?_
      rintro e w2 ⟨v2, rfl, hv2, hB2⟩
      obtain ⟨AL, cL, rfl⟩ := Kd.R_slice hv2
      have X2 := Aside0.mk ((hB2.block _ (by rw [World.size_alloc]; omega)).trans HX.out)
      have q1 := (box_facts X2.out).1
      have q2 := (box_facts X2.out).2
      have L3 := Aside0.mk (Lx.mk (w := w) (one_setCell (u := .slice AL L.length cL) X2.out) (below_set (a := ⟨w1.heap.size, 0, none⟩) (B1.out.2.trans (((below_alloc (Below.refl _ w1) _).trans (hB2.mono (by rw [World.size_alloc]; omega))).mono B1.out.2.size)) B1.out.2.size _) B1.out.2.size)
      have C3 := Aside0.mk (Kd.R_reads' (Kd.R_set hv2 X2.out (by decide) 0 (.slice AL L.length cL))).2
      clear hv2 hB2 HX B1
      go_wp2_with fail
      go_ret3
      obtain ⟨rfl, rfl, rfl⟩ := HV.out
      exact ⟨_, _, rfl, ⟨none, 0, rfl, Nat.le_refl _, Kd.C_nil _ _⟩, Kd.R_nil _ _ _ _ _, L3.out.bel⟩
    · have z2 : (LE != 0) = false := by simpa using cLE
      have HV := Aside0.mk (show chooseL r h s k = if k < 1 ∨ k > (L.length : Int) then ([], [], 121) else ((orderL L).take k.toNat, wholeL (powL L ((orderL L).take k.toNat)), 0) by rw [HEV.out, if_neg cTE, if_neg cLE])
      clear cTE cLE
      go_wp2_with (go_at_call 31; refine (times_c (HR0.out _ (by first | exact Below.refl _ _ | exact below_alloc (Below.refl _ _) _)).1 (HR0.out _ (by first | exact Below.refl _ _ | exact below_alloc (Below.refl _ _) _)).2 (HR1.out _ (by first | exact Below.refl _ _ | exact below_alloc (Below.refl _ _) _)).1 (HR1.out _ (by first | exact Below.refl _ _ | exact below_alloc (Below.refl _ _) _)).2 HT.out).mono ?_; rintro e w1 ⟨v1, rfl, hv1, hB1⟩; obtain ⟨AT, cT, rfl⟩ := Kd.R_slice hv1; have B1 := Aside0.mk (And.intro hv1 hB1); clear hv1 hB1)
      have HX := Aside0.mk (heap_alloc_new w1 (.cells #[.slice AT T.length cT] 38))
      refine (scale_c (Kd.R_below B1.out.1 (below_alloc (Below.refl _ w1) _)) HL.out).mono ?_
      rintro e w2 ⟨v2, rfl, hv2, hB2⟩
      obtain ⟨AL, cL, rfl⟩ := Kd.R_slice hv2
      have X2 := Aside0.mk ((hB2.block _ (by rw [World.size_alloc]; omega)).trans HX.out)
      have q1 := (box_facts X2.out).1
      have q2 := (box_facts X2.out).2
      have L3 := Aside0.mk (Lx.mk (w := w) (one_setCell (u := .slice AL L.length cL) X2.out) (below_set (a := ⟨w1.heap.size, 0, none⟩) (B1.out.2.trans (((below_alloc (Below.refl _ w1) _).trans (hB2.mono (by rw [World.size_alloc]; omega))).mono B1.out.2.size)) B1.out.2.size _) B1.out.2.size)
      have C3 := Aside0.mk (Kd.R_reads' (Kd.R_set hv2 X2.out (by decide) 0 (.slice AL L.length cL))).2
      clear hv2 hB2 HX B1
      by_cases ck : k < 1
      · have HW := Aside0.mk (show O = [] ∧ P = [] ∧ E = 121 by have h1 := HV.out; rw [if_pos (Or.inl ck), HE.out] at h1; injection h1 with e1 e2; injection e2 with e2 e3; exact ⟨e1, e2, e3⟩)
        go_wp2_with fail
        go_ret3
        obtain ⟨rfl, rfl, rfl⟩ := HW.out
        exact ⟨_, _, rfl, ⟨none, 0, rfl, Nat.le_refl _, Kd.C_nil _ _⟩, Kd.R_nil _ _ _ _ _, L3.out.bel⟩
      · by_cases ck2 : k > (L.length : Int)
        · have HW := Aside0.mk (show O = [] ∧ P = [] ∧ E = 121 by have h1 := HV.out; rw [if_pos (Or.inr ck2), HE.out] at h1; injection h1 with e1 e2; injection e2 with e2 e3; exact ⟨e1, e2, e3⟩)
          have q3 := (box_facts L3.out.blk).1
          go_wp2_with fail
          go_ret3
          obtain ⟨rfl, rfl, rfl⟩ := HW.out
          exact ⟨_, _, rfl, ⟨none, 0, rfl, Nat.le_refl _, Kd.C_nil _ _⟩, Kd.R_nil _ _ _ _ _, L3.out.bel⟩
        · obtain ⟨kk, rfl⟩ : ∃ kk : Nat, k = (kk : Int) := ⟨k.toNat, by omega⟩
          have HK := Go.Lib.hid (show 1 ≤ kk ∧ kk ≤ L.length by omega)
          have HW := Aside0.mk (show O = (orderL L).take kk ∧ P = wholeL (powL L ((orderL L).take kk)) ∧ E = 0 by have h1 := HV.out; rw [if_neg (by omega), HE.out, Int.toNat_natCast] at h1; injection h1 with e1 e2; injection e2 with e2 e3; exact ⟨e1, e2, e3⟩)
          have HLn := Go.Lib.hid (show L.length ≤ 1048576 by have h1 := scaleL_len T s; rw [HL.out] at h1; exact h1)
          have d1 : decide ((kk : Int) < 1) = false := decide_eq_false ck
          have d2 : decide (L.length < kk) = false := decide_eq_false (by omega)
          have d3 : ¬ L.length < kk := by omega
          clear HV
          have q3 := (box_facts L3.out.blk).1
          obtain ⟨bx, hbx⟩ : ∃ bx, bx = w1.heap.size := ⟨_, rfl⟩
          go_wp2_with fail
          rw [← hbx] at q1 q2 L3 C3 q3 X2 ⊢
          obtain ⟨W3, hW3⟩ : ∃ W3, W3 = w2.setCell ⟨bx, 0, none⟩ (.slice AL L.length cL) := ⟨_, rfl⟩
          rw [← hW3] at L3 C3 q3 ⊢
          clear hW3 X2 q1 q2 q3 hbx
          go_loopg [13, 53] (L.length + 1) (fun kx s13 s53 wr => ∃ (i : Nat) (v : Value), v = s13 ∧ s53 = .int .i64 (i : Int) ∧ Hid (i ≤ L.length ∧ L.length < i + kx) ∧ Aside0 (wr.ownsRow W3.heap.size 3 1 v i (nums .i64 (rangeZ i)) ∧ Below W3.heap.size W3 wr))
          case atStart => exact ⟨0, _, rfl, rfl, ⟨by omega, by omega⟩, ⟨own_nil _ _ _ _, Below.refl _ _⟩⟩
          case round =>
            obtain ⟨i, v, rfl, rfl, hj, H1⟩ := hrel
            by_cases ci : i < L.length
            · have ci' : (i : Int) < (L.length : Int) := by omega
              go_wp2_with (at_builtin; go_loud (refine print_append_cells (w0 := W3) W3.heap.size rfl (.tmp 56) (.tmp 58) 52 3 (.int .i64 0) 1 8 rfl Try.underlying52 infoI rfl (by decide) (by decide) v i (nums .i64 (rangeZ i)) [.int .i64 (i : Int)] rfl rfl rfl (by intro u hu; rw [List.mem_singleton.1 hu]; rfl) H1.out.1 H1.out.2 H1.out.2.size (by have := HLn.out; omega) ?_); intro v6 w6 hown6 hbel6 hg6 hat6; have H2 := Aside0.mk (And.intro hown6 hbel6); clear hown6 hbel6 hg6 hat6)
              go_roundg (L.length + 1 - (i + 1))
              case measure => have := hj.out; omega
              case rel => exact ⟨i + 1, _, rfl, congrArg (Value.int .i64) (by have := HLn.out; unfold wrap64; omega), ⟨by omega, by have := hj.out; omega⟩, ⟨by rw [rangeZ_succ, show nums .i64 (rangeZ i ++ [(i : Int)]) = nums .i64 (rangeZ i) ++ [.int .i64 (i : Int)] by simp [nums]]; exact H2.out.1, H2.out.2⟩⟩
            · have e9 : i = L.length := by have := hj.out; omega
              subst e9
              obtain ⟨b, cap, rfl⟩ : ∃ b cap, v = .slice (some ⟨b, 0, none⟩) L.length cap := by
                rcases H1.out.1.2 with ⟨_, h0⟩ | ⟨b, cap, _, e, _⟩
                · have := HK.out; omega
                · exact ⟨b, cap, e⟩
              have HS := Aside0.mk (sort_c (W := W3) (wr := wr) (bx := bx) (b := b) (cap := cap) rfl (by have := HK.out; omega) (by have := HLn.out; omega) L3.out.blk C3.out.2 H1.out.2 H1.out.1)
              have hkc : kk ≤ cap := Nat.le_trans HK.out.2 (own_cap H1.out.1)
              have hkc' : (kk : Int) ≤ (cap : Int) := by omega
              clear hj ci H1
              go_wp2_with (go_at_call 36; refine HS.out.mono ?_; rintro e w4 ⟨rfl, ho4, hB4⟩; have H4 := Aside0.mk (And.intro ho4 hB4); have q4 := (box_facts ((hB4.block bx (Array.getElem?_eq_some_iff.1 L3.out.blk).1).trans L3.out.blk)).1; clear ho4 hB4)
              obtain ⟨OO, hOO⟩ : ∃ OO, OO = (orderL L).take kk := ⟨_, rfl⟩
              have HO := Aside0.mk (show OO.length = kk ∧ ∀ j, j < kk → ∃ p : Nat, OO.getD j 0 = (p : Int) ∧ p < L.length ∧ (orderL L).getD j 0 = (p : Int) from by
                rw [hOO]
                refine ⟨by rw [List.length_take, orderL_len]; have := HK.out; omega, fun j hj => ?_⟩
                have h1 := orderL_at L j (by have := HK.out; omega)
                have h2 : ((orderL L).take kk).getD j 0 = (orderL L).getD j 0 := by rw [List.getD_eq_getElem?_getD, List.getElem?_take_of_lt hj, List.getD_eq_getElem?_getD]
                exact ⟨((orderL L).getD j 0).toNat, by rw [h2]; omega, by omega, by omega⟩)
              rw [← hOO] at HW
              have HOE := Aside0.mk hOO
              clear hOO
              obtain ⟨PP, hPP⟩ : ∃ PP, PP = powL L OO := ⟨_, rfl⟩
              have HP := Aside0.mk (show PP.length = kk ∧ (∀ x ∈ PP, 0 ≤ x ∧ x ≤ 2147483648) ∧ 1073741824 ≤ PP.sum ∧ ∀ j, j < kk → PP.getD j 0 = expF (wrap64 (256 * wrap64 (L.getD (OO.getD j 0).toNat 0 - L.getD (OO.getD 0 0).toNat 0))) from by
                rw [hPP]
                refine ⟨by unfold powL; rw [List.length_map]; exact HO.out.1, pow_bounds L OO, pow_sum L OO (fun e => by have h1 := HO.out.1; rw [e] at h1; have h2 : (0 : Nat) = kk := h1; have h3 := HK.out.1; omega), fun j hj => pow_at L OO j (by rw [HO.out.1]; exact hj)⟩)
              rw [← hPP] at HW
              clear hPP
              have HCL := Aside0.mk (reads_n (Kd.C_below C3.out.2 H4.out.2))
              have HBX := Aside0.mk ((H4.out.2.block bx (Array.getElem?_eq_some_iff.1 L3.out.blk).1).trans L3.out.blk)
              go_loopg [15, 16, 70] (kk + 1) (fun kx s15 s16 s70 wr => ∃ (j : Nat) (v : Value), v = s15 ∧ s16 = .int .i64 (PP.take j).sum ∧ s70 = .int .i64 (j : Int) ∧ Hid (j ≤ kk ∧ kk < j + kx) ∧ Aside0 (wr.ownsRow w4.heap.size 2 1 v j (nums .i64 (PP.take j)) ∧ Below w4.heap.size w4 wr))
              case atStart => exact ⟨0, _, rfl, rfl, rfl, ⟨by omega, by omega⟩, ⟨own_nil _ _ _ _, Below.refl _ _⟩⟩
              case round =>
                obtain ⟨j, v, rfl, rfl, rfl, hj, H5⟩ := hrel
                by_cases cj : j < kk
                · have cj' : (j : Int) < (kk : Int) := by omega
                  obtain ⟨p, ep, hp, hp2⟩ := HO.out.2 j cj
                  obtain ⟨p0, ep0, hp0, hp02⟩ := HO.out.2 0 (by omega)
                  obtain ⟨ad, rfl, hc1⟩ := HCL.out p hp
                  obtain ⟨ad', ea, hc2⟩ := HCL.out p0 hp0
                  obtain rfl : ad = ad' := by injection ea
                  have hPj := HP.out.2.2.2 j cj
                  rw [ep, ep0, Int.toNat_natCast, Int.toNat_natCast] at hPj
                  obtain ⟨x, hx⟩ : ∃ x, x = L.getD p 0 := ⟨_, rfl⟩
                  obtain ⟨y, hy⟩ : ∃ y, y = L.getD p0 0 := ⟨_, rfl⟩
                  rw [← hx] at hc1 hPj
                  rw [← hy] at hc2 hPj
                  have lt : ∀ (a : Addr) v, w4.cell? a = some v → wr.cell? a = some v := fun a v h => by
                    have hl := World.block_lt_of_cell? w4 a h
                    simpa [World.cell?, H5.out.2.block a.block hl] using h
                  have a1 := lt _ _ hc1
                  have a2 := lt _ _ hc2
                  have a3 := lt _ _ (box_facts HBX.out).1
                  have cell : ∀ i (q : Nat), i < L.length → (orderL L).getD i 0 = (q : Int) → wr.cell? ⟨b, i, none⟩ = some (.int .i64 (q : Int)) := fun i q hi hq => by
                    apply lt
                    rw [H4.out.1.cellAt i (by omega), ← hq]
                    have hol : i < (orderL L).length := by rw [orderL_len]; exact hi
                    simp [nums, List.getD_eq_getElem?_getD, List.getElem?_eq_getElem hol]
                  have a4 := cell j p (by have := HK.out; omega) hp2
                  have a5 := cell 0 p0 (by have := HK.out; omega) hp02
                  have b1 : wr.drew.cell? (ad.add p) = some (.int .i64 x) := a1
                  have b2 : wr.drew.cell? (ad.add p0) = some (.int .i64 y) := a2
                  have b3 : wr.drew.cell? ⟨bx, 0, none⟩ = some (.slice (some ad) L.length cL) := a3
                  have b5 : wr.drew.cell? ⟨b, 0, none⟩ = some (.int .i64 (p0 : Int)) := a5
                  have n1 : (p : Int) < (L.length : Int) := by omega
                  have n2 : (p0 : Int) < (L.length : Int) := by omega
                  have n3 : (0 : Int) ≤ (p : Int) := by omega
                  have n4 : (0 : Int) ≤ (p0 : Int) := by omega
                  have n5 : (0 : Int) < (kk : Int) := by omega
                  have n6 : 0 < kk := by omega
                  have n7 : ¬ kk = 0 := by omega
                  have n8 : ¬ kk ≤ 0 := by omega
                  have HPJ := Aside0.mk hPj
                  clear lt cell hx hy ea hc1 hc2 hPj ep ep0 hp2 hp02
                  go_wp2_with fail
                  go_region_held3 (fun w' => w'.cell? (ad.add p) = some (.int .i64 x) ∧ w'.cell? (ad.add p0) = some (.int .i64 y) ∧ w'.cell? ⟨bx, 0, none⟩ = some (.slice (some ad) L.length cL) ∧ w'.cell? ⟨b, 0, none⟩ = some (.int .i64 (p0 : Int))) (first | exact ⟨e1, e2, e3, e5⟩ | exact ⟨b1, b2, b3, b5⟩)
                    ((go_at_call 38; refine (exp_c x y _).mono ?_; rintro e w6 ⟨rfl, hB6⟩; have B6 := Aside0.mk hB6; have lt6 : ∀ (a : Addr) v, wr.drew.cell? a = some v → w6.cell? a = some v := (fun a v h => by have hl := World.block_lt_of_cell? wr.drew a h; simpa [World.cell?, hB6.block a.block hl] using h); have e1 := lt6 _ _ b1; have e2 := lt6 _ _ b2; have e3 := lt6 _ _ b3; have e5 := lt6 _ _ b5; clear hB6 lt6))
                  rw [← HPJ.out]
                  obtain ⟨z, hz⟩ : ∃ z, z = PP.getD j 0 := ⟨_, rfl⟩
                  have HZ := Aside0.mk hz
                  rw [← hz]
                  clear HPJ hz e1 e2 e3 e5 b1 b2 b3 b5 a1 a2 a3 a4 a5
                  have H6 := Aside0.mk (And.intro (own_move H5.out.1 (fun k hk => B6.out.block k (own_lt H5.out.1 k hk))) (H5.out.2.drew.trans (B6.out.mono H5.out.2.size)))
                  have HSB := Aside0.mk (sum_bounds (PP.take j) (fun x hx => HP.out.2.1 x (List.mem_of_mem_take hx)))
                  have HZB := Aside0.mk (show 0 ≤ z ∧ z ≤ 2147483648 by rw [HZ.out, List.getD_eq_getElem?_getD, List.getElem?_eq_getElem (by rw [HP.out.1]; exact cj)]; exact HP.out.2.1 _ (List.getElem_mem _))
                  obtain ⟨sj, hsj⟩ : ∃ sj, sj = (PP.take j).sum := ⟨_, rfl⟩
                  have HSJ := Aside0.mk hsj
                  rw [← hsj]
                  clear hsj
                  clear B6 H5
                  go_wp2_with (at_builtin; (refine print_append_cells (w0 := w4) w4.heap.size rfl (.tmp 87) (.tmp 89) 38 2 (.int .i64 0) 1 8 rfl Try.underlying38 info64 rfl (by decide) (by decide) v j (nums .i64 (PP.take j)) [.int .i64 z] rfl rfl rfl (by intro u hu; rw [List.mem_singleton.1 hu]; rfl) H6.out.1 H6.out.2 H6.out.2.size (by have := HLn.out; have := HK.out; omega) ?_); intro v7 w7 hown7 hbel7 hg7 hat7; have H7 := Aside0.mk (And.intro hown7 hbel7); clear hown7 hbel7 hg7 hat7)
                  go_roundg (kk + 1 - (j + 1))
                  case measure => have := hj.out; omega
                  case rel => exact ⟨j + 1, _, rfl, congrArg (Value.int .i64) (by
                    rw [take_next PP j (by rw [HP.out.1]; exact cj), List.sum_append, List.sum_singleton, ← HZ.out, ← HSJ.out]
                    have h1 := HSB.out
                    rw [← HSJ.out, List.length_take] at h1
                    have := HZB.out
                    have := HLn.out
                    have := HK.out
                    unfold wrap64
                    omega), congrArg (Value.int .i64) (by have := HLn.out; have := HK.out; unfold wrap64; omega), ⟨by omega, by have := hj.out; omega⟩, ⟨by rw [take_next PP j (by rw [HP.out.1]; exact cj), ← HZ.out, show nums .i64 (PP.take j ++ [z]) = nums .i64 (PP.take j) ++ [.int .i64 z] by simp [nums]]; exact H7.out.1, H7.out.2⟩⟩
                · obtain rfl : j = kk := by have := hj.out; omega
                  have H6 := Aside0.mk (show wr.ownsRow w4.heap.size 2 1 v j (nums .i64 PP) ∧ Below w4.heap.size w4 wr from by have h1 := H5.out; rw [List.take_of_length_le (by rw [HP.out.1]; exact Nat.le_refl _)] at h1; exact h1)
                  have hPt : PP.take j = PP := List.take_of_length_le (by rw [HP.out.1]; exact Nat.le_refl _)
                  rw [hPt]
                  obtain ⟨g, cw, rfl⟩ : ∃ g cw, v = .slice (some ⟨g, 0, none⟩) j cw := by
                    rcases H6.out.1.2 with ⟨_, h0⟩ | ⟨g, cap, _, e, _⟩
                    · have := HK.out; omega
                    · exact ⟨g, cap, e⟩
                  obtain ⟨sm, hsm⟩ : ∃ sm, sm = PP.sum := ⟨_, rfl⟩
                  have HSM := Aside0.mk (show sm = PP.sum ∧ 1073741824 ≤ sm ∧ sm ≤ 2147483648 * (j : Int) from by
                    have h1 := HP.out.2.2.1
                    have h2 := (sum_bounds PP HP.out.2.1).2
                    rw [HP.out.1] at h2
                    rw [hsm]
                    exact ⟨rfl, h1, h2⟩)
                  rw [← hsm]
                  obtain ⟨QQ, hQQ⟩ : ∃ QQ, QQ = quoL PP := ⟨_, rfl⟩
                  have HQQ := Aside0.mk (show QQ = quoL PP ∧ QQ.length = j ∧ (∀ i, 0 ≤ (QQ.take i).sum ∧ (QQ.take i).sum ≤ 65536) ∧ ∀ i, i < j → QQ.getD i 0 = Int.tdiv (65536 * PP.getD i 0) sm from by
                    refine ⟨hQQ, by rw [hQQ]; unfold quoL; rw [List.length_map]; exact HP.out.1, fun i => by rw [hQQ]; exact quo_take PP HP.out.2.1 (by have := HP.out.2.2.1; omega) i, fun i hi => ?_⟩
                    rw [hQQ, hsm]
                    unfold quoL
                    rw [List.getD_eq_getElem?_getD, List.getElem?_map, List.getD_eq_getElem?_getD, List.getElem?_eq_getElem (by rw [HP.out.1]; exact hi)]
                    rfl)
                  have M0 := Aside0.mk (show wr.ownsRow w4.heap.size 2 1 (.slice (some ⟨g, 0, none⟩) j cw) j (nums .i64 (QQ.take 0 ++ PP.drop 0)) ∧ Below w4.heap.size w4 wr from by rw [List.take_zero, List.drop_zero, List.nil_append]; exact H6.out)
                  clear hj cj H5 hPt hsm hQQ H6
                  go_wp2_with fail
                  go_loopg [20, 97] (j + 1) (fun kx s20 s97 wr => ∃ (i : Nat) (ms : Int), s20 = .int .i64 ms ∧ s97 = .int .i64 (i : Int) ∧ Hid (i ≤ j ∧ j < i + kx ∧ ms = 65536 - (QQ.take i).sum) ∧ Aside0 (wr.ownsRow w4.heap.size 2 1 (.slice (some ⟨g, 0, none⟩) j cw) j (nums .i64 (QQ.take i ++ PP.drop i)) ∧ Below w4.heap.size w4 wr))
                  case atStart => exact ⟨0, _, rfl, rfl, ⟨by omega, by omega, by simp⟩, M0⟩
                  case round =>
                    clear M0
                    obtain ⟨i, ms, rfl, rfl, hj, M1⟩ := hrel
                    by_cases ci : i < j
                    · have ci' : (i : Int) < (j : Int) := by omega
                      obtain ⟨x, hx⟩ : ∃ x, x = PP.getD i 0 := ⟨_, rfl⟩
                      have HXB := Aside0.mk (show x = PP.getD i 0 ∧ 0 ≤ x ∧ x ≤ 2147483648 from by rw [hx]; exact ⟨rfl, by rw [List.getD_eq_getElem?_getD, List.getElem?_eq_getElem (by rw [HP.out.1]; exact ci)]; exact HP.out.2.1 _ (List.getElem_mem _)⟩)
                      have a1 : wr.cell? ⟨g, i, none⟩ = some (.int .i64 x) := by
                        rw [M1.out.1.cellAt i (by omega), hx]
                        have hl : i < PP.length := by rw [HP.out.1]; exact ci
                        have hq : (QQ.take i).length = i := by rw [List.length_take, HQQ.out.2.1]; omega
                        simp only [nums, List.getElem?_map]
                        rw [List.getElem?_append_right (by omega), hq, Nat.sub_self, List.getElem?_drop, Nat.add_zero, List.getD_eq_getElem?_getD, List.getElem?_eq_getElem hl]
                        rfl
                      have a2 : wr.frozen? ⟨g, i, none⟩ = false := M1.out.1.frozenAt i
                      have w1' : wrap64 (65536 * x) = 65536 * x := by have := HXB.out; unfold wrap64; omega
                      have w2' : IntKind.i64.wrap (65536 * x) = 65536 * x := by rw [wrap_eq]; exact w1'
                      have w3' : sm ≠ 0 := by have := HSM.out; omega
                      have w4' : ¬ sm = 0 := w3'
                      have w5' : (sm == 0) = false := by simpa using w3'
                      clear hx
                      have HQ := Aside0.mk (show Int.tdiv (65536 * x) sm = QQ.getD i 0 ∧ 0 ≤ QQ.getD i 0 ∧ QQ.getD i 0 ≤ 65536 ∧ (QQ.take (i + 1)).sum = (QQ.take i).sum + QQ.getD i 0 from by
                        have h1 := take_next QQ i (by rw [HQQ.out.2.1]; exact ci)
                        have h2 := HQQ.out.2.2.1 i
                        have h3 := HQQ.out.2.2.1 (i + 1)
                        rw [h1, List.sum_append, List.sum_singleton] at h3
                        have h4 := HQQ.out.2.2.2 i ci
                        have h5 := Int.tdiv_nonneg (show 0 ≤ 65536 * x by have := HXB.out; omega) (show 0 ≤ sm by have := HSM.out; omega)
                        rw [HXB.out.1] at h5 ⊢
                        exact ⟨h4.symm, by rw [h4]; exact h5, by omega, by rw [h1, List.sum_append, List.sum_singleton]⟩)
                      go_wp2_with fail
                      have hq : wrap64 (Int.tdiv (65536 * x) sm) = QQ.getD i 0 := by have h := HQ.out; rw [h.1]; unfold wrap64; omega
                      rw [hq]
                      have H8 := Aside0.mk (show (wr.setCell ⟨g, i, none⟩ (.int .i64 (QQ.getD i 0))).ownsRow w4.heap.size 2 1 (.slice (some ⟨g, 0, none⟩) j cw) j (nums .i64 (QQ.take (i + 1) ++ PP.drop (i + 1))) ∧ Below w4.heap.size w4 (wr.setCell ⟨g, i, none⟩ (.int .i64 (QQ.getD i 0))) from by
                        refine ⟨?_, below_set (a := ⟨g, i, none⟩) M1.out.2 (own_base M1.out.1 g rfl) _⟩
                        have h := (M1.out.1.stored i (.int .i64 (QQ.getD i 0))).1
                        rw [← set_next QQ PP i (by rw [HQQ.out.2.1]; exact ci) (by rw [HP.out.1]; exact ci)]
                        have key : ∀ (l : List Int) (k : Nat) (u : Int), nums .i64 (l.set k u) = (nums .i64 l).set k (.int .i64 u) := fun l k u => by simp [nums, List.map_set]
                        rw [key]
                        exact h)
                      go_roundg (j + 1 - (i + 1))
                      case measure => have := hj.out; omega
                      case rel => exact ⟨i + 1, _, rfl, congrArg (Value.int .i64) (by have := HLn.out; have := HK.out; unfold wrap64; omega), ⟨by omega, by have := hj.out; omega, by
                        have h := HQ.out
                        have h2 := HQQ.out.2.2.1 i
                        have h3 := hj.out.2.2
                        rw [h.2.2.2, h3]
                        unfold wrap64
                        omega⟩, H8⟩
                    · obtain rfl : i = j := by have := hj.out; omega
                      have hms := hj.out.2.2
                      have hQt : QQ.take i = QQ := List.take_of_length_le (by rw [HQQ.out.2.1]; exact Nat.le_refl _)
                      have hPd : PP.drop i = [] := List.drop_of_length_le (by rw [HP.out.1]; exact Nat.le_refl _)
                      have M2 := Aside0.mk (show wr.ownsRow w4.heap.size 2 1 (.slice (some ⟨g, 0, none⟩) i cw) i (nums .i64 QQ) ∧ Below w4.heap.size w4 wr from by have h := M1.out; rw [hQt, hPd, List.append_nil] at h; exact h)
                      have HMS := Aside0.mk (show ms = 65536 - QQ.sum from by rw [hms, hQt])
                      have HQ0 := Aside0.mk (show 0 ≤ QQ.sum ∧ QQ.sum ≤ 65536 ∧ 0 ≤ QQ.getD 0 0 ∧ QQ.getD 0 0 ≤ 65536 from by
                        have h1 := HQQ.out.2.2.1 i
                        rw [hQt] at h1
                        have h2 := HQQ.out.2.2.1 1
                        have h0 : 0 < QQ.length := by rw [HQQ.out.2.1]; have := HK.out; omega
                        rw [take_next QQ 0 h0, List.take_zero, List.nil_append, List.sum_singleton] at h2
                        omega)
                      obtain ⟨q0, hq0⟩ : ∃ q0, q0 = QQ.getD 0 0 := ⟨_, rfl⟩
                      have a1 : wr.cell? ⟨g, 0, none⟩ = some (.int .i64 q0) := by
                        rw [M2.out.1.cellAt 0 (by have := HK.out; omega), hq0]
                        have h0 : 0 < QQ.length := by rw [HQQ.out.2.1]; have := HK.out; omega
                        simp [nums, List.getD_eq_getElem?_getD, List.getElem?_eq_getElem h0]
                      have a2 : wr.frozen? ⟨g, 0, none⟩ = false := M2.out.1.frozenAt 0
                      have n6 : 0 < i := by have := HK.out; omega
                      have n5 : (0 : Int) < (i : Int) := by omega
                      have w1' : wrap64 (q0 + ms) = q0 + ms := by have := HQ0.out; have := HMS.out; rw [← hq0] at *; unfold wrap64; omega
                      have w2' : IntKind.i64.wrap (q0 + ms) = q0 + ms := by rw [wrap_eq]; exact w1'
                      have HQ1 := Aside0.mk hq0
                      clear hj ci M1 hms hQt hPd hq0
                      go_wp2_with fail
                      go_ret3
                      have M3 : (wr.setCell ⟨g, 0, none⟩ (.int .i64 (q0 + ms))).ownsRow w4.heap.size 2 1 (.slice (some ⟨g, 0, none⟩) i cw) i (nums .i64 (QQ.set 0 (q0 + ms))) ∧ Below w4.heap.size w4 (wr.setCell ⟨g, 0, none⟩ (.int .i64 (q0 + ms))) := by
                        refine ⟨?_, below_set (a := ⟨g, 0, none⟩) M2.out.2 (own_base M2.out.1 g rfl) _⟩
                        have key : ∀ (l : List Int) (k : Nat) (u : Int), nums .i64 (l.set k u) = (nums .i64 l).set k (.int .i64 u) := fun l k u => by simp [nums, List.map_set]
                        rw [key]
                        exact (M2.out.1.stored 0 (.int .i64 (q0 + ms))).1
                      obtain ⟨eO, eP, eE⟩ := HW.out
                      have eW : P = QQ.set 0 (q0 + ms) := by rw [eP]; unfold wholeL; rw [← HQQ.out.1, HQ1.out, HMS.out]
                      have hB : Below w.heap.size w (wr.setCell ⟨g, 0, none⟩ (.int .i64 (q0 + ms))) := by
                        have h3 := L3.out.bel
                        have h4 := h3.trans (H4.out.2.mono h3.size)
                        exact h4.trans (M3.2.mono h4.size)
                      have hC := own_take (own_move H4.out.1 (fun k hk => M3.2.block k (own_lt H4.out.1 k hk))) (m := i) (by have := HK.out; omega)
                      have hC2 : Kd.C (Kd.int .i64) (wr.setCell ⟨g, 0, none⟩ (.int .i64 (q0 + ms))) (some ⟨b, 0, none⟩) i OO := by
                        have e : ((nums .i64 (orderL L)).take (i * 1)) = nums .i64 OO := by
                          have e1 : (nums .i64 (orderL L)).take i = nums .i64 ((orderL L).take i) := by simp [nums, List.map_take]
                          rw [Nat.mul_one, e1, ← HOE.out]
                        rw [e] at hC
                        exact Kd.C_of_reads (d := (0 : Int)) (own_reads_of' (enc := Value.int .i64) hC)
                      subst eO
                      subst eE
                      refine ⟨_, _, rfl, ⟨some ⟨b, 0, none⟩, i, ?_, by rw [HO.out.1]; exact Nat.le_refl _, ?_⟩, ?_, hB⟩
                      · rw [HO.out.1]
                        rfl
                      · have h := hC2
                        rw [← HO.out.1] at h
                        exact h
                      · rw [eW]
                        refine Kd.R_of_own (enc := Value.int .i64) ?_ (fun _ _ => trivial)
                        have hl : (QQ.set 0 (q0 + ms)).length = i := by rw [List.length_set]; exact HQQ.out.2.1
                        have h := own_less M3.1 (Nat.le_trans L3.out.bel.size H4.out.2.size)
                        rw [hl]
                        exact h
end Go.Proofs.Ytjcfhgpaipbedaa.Ch
