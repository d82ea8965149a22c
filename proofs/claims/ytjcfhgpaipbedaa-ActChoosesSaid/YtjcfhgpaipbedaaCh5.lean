/- heraldref12.Choose's walk. -/
import Derived.Test.YtjcfhgpaipbedaaCh3
import Derived.Test.YtjcfhgpaipbedaaCh6
namespace Go.Proofs.Ytjcfhgpaipbedaa.Ch
set_option linter.unusedVariables false
open Go.Proofs Go.Shelf Go.RowKit Go.Lib Go.Sort Go.Proofs.YtjcfhgpaipbedaaW.PrintWords Go.Proofs.YtjcfhgpaipbedaaW.PrintLast Go.Proofs.YtjcfhgpaipbedaaW.PrintMore Go.Proofs.Ytjcfhgpaipbedaa.A Go.Proofs.Ytjcfhgpaipbedaa.St Go.Proofs.Ytjcfhgpaipbedaa.Pure
attribute [local go_sem] Oper.semAt_some
section
variable {w : World} {A0 A1 : Option Addr} {c0 c1 : Nat} {r h : List Int} {s : Int} {R : List Int} {E : Int}
theorem times_r (hr0 : Kd.C (Kd.int .i8) w A0 r.length r) (hc0 : r.length ≤ c0) (hr1 : Kd.C (Kd.int .i8) w A1 h.length h) (hc1 : h.length ≤ c1) (hE : timesL r h.length h = (R, E)) :
    Calls Try.prog 34 #[.slice A0 r.length c0, .int .i64 (h.length : Int), .slice A1 h.length c1] w fun e w' => ∃ v : Value, e = .returned (.tuple #[v, .int .i64 E]) ∧ Kd.R (Kd.int .i64) 2 w' w.heap.size (fun _ => True) v R ∧ Below w.heap.size w w' := by
  obtain ⟨K, hK⟩ := ref_times r h.length h
  exact r08_Times.calls K A0 c0 r _ A1 c1 h R E w hr0 hc0 hr1 hc1 (by rw [← hE]; exact hK K (Nat.le_refl _))
theorem scale_r (hr0 : Kd.C (Kd.int .i64) w A0 r.length r) (hc0 : r.length ≤ c0) (hE : scaleL r s = (R, E)) :
    Calls Try.prog 35 #[.slice A0 r.length c0, .int .i64 s] w fun e w' => ∃ v : Value, e = .returned (.tuple #[v, .int .i64 E]) ∧ Kd.R (Kd.int .i64) 2 w' w.heap.size (fun _ => True) v R ∧ Below w.heap.size w w' := by
  obtain ⟨K, hK⟩ := ref_scale r s
  exact r08_Scale.calls K A0 c0 r s R E w hr0 hc0 (by rw [← hE]; exact hK K (Nat.le_refl _))
end
theorem exp_r (x y : Int) (w : World) : Calls Try.prog 40 #[.int .i64 (IntKind.i64.wrap (256 * IntKind.i64.wrap (x - y)))] w fun e w' => e = .returned (.int .i64 (expF (wrap64 (256 * wrap64 (x - y))))) ∧ Below w.heap.size w w' := by
  rw [wrap_eq, wrap_eq]
  obtain ⟨K, hK⟩ := exp_ev (wrap64 (256 * wrap64 (x - y))) (by unfold wrap64; omega) (by unfold wrap64; omega)
  refine (r02_Exp2.calls K _ _ w (hK K (Nat.le_refl _))).mono ?_
  rintro e w' ⟨rfl, h⟩
  exact ⟨rfl, h.below⟩
theorem own_head {e base : Nat} {ok : Nat → Prop} {w : World} {v : Value} {xs : List Int} (h : Kd.R (Kd.int .i64) e w base ok v xs) (h0 : 0 < xs.length) : ∃ b cap, v = .slice (some ⟨b, 0, none⟩) xs.length cap := by
  rcases (own_of_R' h).2 with ⟨_, h1⟩ | ⟨b, cap, _, e, _⟩
  · omega
  · exact ⟨b, cap, e⟩
theorem order_r {w : World} {A0 : Option Addr} {c0 : Nat} {l : List Int} (hr0 : Kd.C (Kd.int .i64) w A0 l.length l) (hc0 : l.length ≤ c0) (hl : l.length ≤ 1048576) :
    Calls Try.prog 39 #[.slice A0 l.length c0] w fun e w' => ∃ v : Value, e = .returned v ∧ Kd.R (Kd.int .i64) 3 w' w.heap.size (fun _ => True) v (orderL l) ∧ Below w.heap.size w w' := by
  obtain ⟨K, hK⟩ := ref_order l (by omega)
  exact r07_Order.calls K A0 c0 l _ w hr0 hc0 (hK K (Nat.le_refl _))


set_option maxRecDepth 100000 in
set_option maxHeartbeats 1000000 in
theorem rchoose_calls (A0 : Option Addr) (c0 : Nat) (r : List Int) (A1 : Option Addr) (c1 : Nat) (h : List Int) (s k : Int) (w : World) (hr0 : Kd.C (Kd.int .i8) w A0 r.length r) (hc0 : r.length ≤ c0) (hr1 : Kd.C (Kd.int .i8) w A1 h.length h) (hc1 : h.length ≤ c1) {O P : List Int} {E : Int} (hE : chooseL r h s k = (O, P, E)) :
    Calls Try.prog 23 #[.slice A0 r.length c0, .slice A1 h.length c1, .int .i64 s, .int .i64 k] w fun e w' => ∃ v1 v2 : Value, e = .returned (.tuple #[v1, v2, .int .i64 E]) ∧ (∃ A c, v1 = .slice A O.length c ∧ O.length ≤ c ∧ Kd.C (Kd.int .i64) w' A O.length O) ∧ Kd.R (Kd.int .i64) 2 w' w.heap.size (fun _ => True) v2 P ∧ Below w.heap.size w w' := by
  have HR0 := Aside0.mk (fun W (hB : Below w.heap.size w W) => And.intro (Kd.C_below hr0 hB) hc0)
  have HR1 := Aside0.mk (fun W (hB : Below w.heap.size w W) => And.intro (Kd.C_below hr1 hB) hc1)
  have HE := Aside0.mk hE
  obtain ⟨T, TE, hT⟩ : ∃ T TE, timesL r h.length h = (T, TE) := ⟨_, _, rfl⟩
  obtain ⟨L, LE, hL⟩ : ∃ L LE, scaleL T s = (L, LE) := ⟨_, _, rfl⟩
  have HT := Aside0.mk hT
  have HL := Aside0.mk hL
  have HEV := Aside0.mk (show chooseL r h s k = if TE ≠ 0 then ([], [], TE) else if LE ≠ 0 then ([], [], LE) else if k < 1 ∨ k > (L.length : Int) then ([], [], 121) else ((orderL L).take k.toNat, wholeL (powL L ((orderL L).take k.toNat)), 0) by unfold chooseL; rw [hT]; simp only [hL])
  clear hr0 hc0 hr1 hc1 hE hT hL
  go_enter Try.func23, Try.ntmps23
  by_cases cTE : TE ≠ 0
  · have z1 : (TE != 0) = true := bne_iff_ne.2 cTE
    have HV := Aside0.mk (show O = [] ∧ P = [] ∧ E = TE by have h1 := HEV.out; rw [if_pos cTE, HE.out] at h1; injection h1 with e1 e2; injection e2 with e2 e3; exact ⟨e1, e2, e3⟩)
    clear cTE
    go_wp2_with (go_at_call 34; refine (times_r (HR0.out _ (Below.refl _ _)).1 (HR0.out _ (Below.refl _ _)).2 (HR1.out _ (Below.refl _ _)).1 (HR1.out _ (Below.refl _ _)).2 HT.out).mono ?_; rintro e w1 ⟨v1, rfl, hv1, hB1⟩; obtain ⟨AT, cT, rfl⟩ := Kd.R_slice hv1; have B1 := Aside0.mk (And.intro hv1 hB1); clear hv1 hB1)
    go_ret3
    obtain ⟨rfl, rfl, rfl⟩ := HV.out
    exact ⟨_, _, rfl, ⟨none, 0, rfl, Nat.le_refl _, Kd.C_nil _ _⟩, Kd.R_nil _ _ _ _ _, B1.out.2⟩
  · have z1 : (TE != 0) = false := by simpa using cTE
    by_cases cLE : LE ≠ 0
    · have z2 : (LE != 0) = true := bne_iff_ne.2 cLE
      have HV := Aside0.mk (show O = [] ∧ P = [] ∧ E = LE by have h1 := HEV.out; rw [if_neg cTE, if_pos cLE, HE.out] at h1; injection h1 with e1 e2; injection e2 with e2 e3; exact ⟨e1, e2, e3⟩)
      clear cTE cLE
      go_wp2_with (first
        | (go_at_call 34; refine (times_r (HR0.out _ (Below.refl _ _)).1 (HR0.out _ (Below.refl _ _)).2 (HR1.out _ (Below.refl _ _)).1 (HR1.out _ (Below.refl _ _)).2 HT.out).mono ?_; rintro e w1 ⟨v1, rfl, hv1, hB1⟩; obtain ⟨AT, cT, rfl⟩ := Kd.R_slice hv1; have B1 := Aside0.mk (And.intro hv1 hB1); clear hv1 hB1)
        | (go_at_call 35; refine (scale_r (Kd.R_reads' B1.out.1).2.2 (Kd.R_reads' B1.out.1).2.1 HL.out).mono ?_; rintro e w2 ⟨v2, rfl, hv2, hB2⟩; obtain ⟨AL, cL, rfl⟩ := Kd.R_slice hv2; have B2 := Aside0.mk (And.intro hv2 (B1.out.2.trans (hB2.mono B1.out.2.size))); clear hv2 hB2))
      go_ret3
      obtain ⟨rfl, rfl, rfl⟩ := HV.out
      exact ⟨_, _, rfl, ⟨none, 0, rfl, Nat.le_refl _, Kd.C_nil _ _⟩, Kd.R_nil _ _ _ _ _, B2.out.2⟩
    · have z2 : (LE != 0) = false := by simpa using cLE
      have HV := Aside0.mk (show chooseL r h s k = if k < 1 ∨ k > (L.length : Int) then ([], [], 121) else ((orderL L).take k.toNat, wholeL (powL L ((orderL L).take k.toNat)), 0) by rw [HEV.out, if_neg cTE, if_neg cLE])
      clear cTE cLE
      by_cases ck : k < 1 ∨ k > (L.length : Int)
      · have HW := Aside0.mk (show O = [] ∧ P = [] ∧ E = 121 by have h1 := HV.out; rw [if_pos ck, HE.out] at h1; injection h1 with e1 e2; injection e2 with e2 e3; exact ⟨e1, e2, e3⟩)
        have d9 : (decide (k < 1) || decide (k > (L.length : Int))) = true := by rcases ck with c | c <;> simp [c]
        rcases ck with ck | ck
        all_goals
          go_wp2_with (first
            | (go_at_call 34; refine (times_r (HR0.out _ (Below.refl _ _)).1 (HR0.out _ (Below.refl _ _)).2 (HR1.out _ (Below.refl _ _)).1 (HR1.out _ (Below.refl _ _)).2 HT.out).mono ?_; rintro e w1 ⟨v1, rfl, hv1, hB1⟩; obtain ⟨AT, cT, rfl⟩ := Kd.R_slice hv1; have B1 := Aside0.mk (And.intro hv1 hB1); clear hv1 hB1)
            | (go_at_call 35; refine (scale_r (Kd.R_reads' B1.out.1).2.2 (Kd.R_reads' B1.out.1).2.1 HL.out).mono ?_; rintro e w2 ⟨v2, rfl, hv2, hB2⟩; obtain ⟨AL, cL, rfl⟩ := Kd.R_slice hv2; have B2 := Aside0.mk (And.intro hv2 (B1.out.2.trans (hB2.mono B1.out.2.size))); clear hv2 hB2))
          go_ret3
          obtain ⟨rfl, rfl, rfl⟩ := HW.out
          exact ⟨_, _, rfl, ⟨none, 0, rfl, Nat.le_refl _, Kd.C_nil _ _⟩, Kd.R_nil _ _ _ _ _, B2.out.2⟩
      · obtain ⟨kk, rfl⟩ : ∃ kk : Nat, k = (kk : Int) := ⟨k.toNat, by omega⟩
        have HK := Go.Lib.hid (show 1 ≤ kk ∧ kk ≤ L.length by omega)
        have HW := Aside0.mk (show O = (orderL L).take kk ∧ P = wholeL (powL L ((orderL L).take kk)) ∧ E = 0 by have h1 := HV.out; rw [if_neg (by omega), HE.out, Int.toNat_natCast] at h1; injection h1 with e1 e2; injection e2 with e2 e3; exact ⟨e1, e2, e3⟩)
        have HLn := Go.Lib.hid (show L.length ≤ 1048576 by have h1 := scaleL_len T s; rw [HL.out] at h1; exact h1)
        have d1 : decide ((kk : Int) < 1) = false := decide_eq_false (by omega)
        have d2 : decide (L.length < kk) = false := decide_eq_false (by omega)
        have d3 : ¬ L.length < kk := by omega
        have ck3 : ¬ (kk : Int) < 1 := by omega
        have ck4 : (kk : Int) ≤ (L.length : Int) := by omega
        clear HV ck
        go_wp2_with (first
          | (go_at_call 34; refine (times_r (HR0.out _ (Below.refl _ _)).1 (HR0.out _ (Below.refl _ _)).2 (HR1.out _ (Below.refl _ _)).1 (HR1.out _ (Below.refl _ _)).2 HT.out).mono ?_; rintro e w1 ⟨v1, rfl, hv1, hB1⟩; obtain ⟨AT, cT, rfl⟩ := Kd.R_slice hv1; have B1 := Aside0.mk (And.intro hv1 hB1); clear hv1 hB1)
          | (go_at_call 35; refine (scale_r (Kd.R_reads' B1.out.1).2.2 (Kd.R_reads' B1.out.1).2.1 HL.out).mono ?_; rintro e w2 ⟨v2, rfl, hv2, hB2⟩; obtain ⟨AL, cL, rfl⟩ := Kd.R_slice hv2; have B2 := Aside0.mk (And.intro hv2 (B1.out.2.trans (hB2.mono B1.out.2.size))); clear hv2 hB2)
          | (go_at_call 39; refine (order_r (Kd.R_reads' B2.out.1).2.2 (Kd.R_reads' B2.out.1).2.1 HLn.out).mono ?_; rintro e w4 ⟨v4, rfl, hv4, hB4⟩; obtain ⟨b, cap, rfl⟩ := own_head hv4 (by rw [orderL_len]; have := HK.out; omega); have hkc : kk ≤ cap := (Nat.le_trans (by rw [orderL_len]; exact HK.out.2) (own_cap (Kd.own_of_R hv4))); have hkc' : (kk : Int) ≤ (cap : Int) := (by omega); have H4 := Aside0.mk (And.intro (own_of_R' hv4) hB4); clear hv4 hB4))
        obtain ⟨OO, hOO⟩ : ∃ OO, OO = (orderL L).take kk := ⟨_, rfl⟩
        have HO := Aside0.mk (show OO.length = kk ∧ ∀ j, j < kk → ∃ p : Nat, OO.getD j 0 = (p : Int) ∧ p < L.length ∧ (orderL L).getD j 0 = (p : Int) from by
          rw [hOO]
          refine ⟨by rw [List.length_take, orderL_len]; have := HK.out; omega, fun j hj => ?_⟩
          have h1 := orderL_at L j (by have := HK.out; omega)
          have h2 : ((orderL L).take kk).getD j 0 = (orderL L).getD j 0 := by rw [List.getD_eq_getElem?_getD, List.getElem?_take_of_lt hj, List.getD_eq_getElem?_getD]
          exact ⟨((orderL L).getD j 0).toNat, by rw [h2]; omega, by omega, by omega⟩)
        rw [← hOO] at HW
        have HOE := Aside0.mk hOO
        clear hOO
        obtain ⟨PP, hPP⟩ : ∃ PP, PP = powL L OO := ⟨_, rfl⟩
        have HP := Aside0.mk (show PP.length = kk ∧ (∀ x ∈ PP, 0 ≤ x ∧ x ≤ 2147483648) ∧ 1073741824 ≤ PP.sum ∧ ∀ j, j < kk → PP.getD j 0 = expF (wrap64 (256 * wrap64 (L.getD (OO.getD j 0).toNat 0 - L.getD (OO.getD 0 0).toNat 0))) from by
          rw [hPP]
          refine ⟨by unfold powL; rw [List.length_map]; exact HO.out.1, pow_bounds L OO, pow_sum L OO (fun e => by have h1 := HO.out.1; rw [e] at h1; have h2 : (0 : Nat) = kk := h1; have h3 := HK.out.1; omega), fun j hj => pow_at L OO j (by rw [HO.out.1]; exact hj)⟩)
        rw [← hPP] at HW
        clear hPP
        have HCL := Aside0.mk (reads_n (Kd.C_below (Kd.R_reads' B2.out.1).2.2 H4.out.2))
        have HBW := Aside0.mk (show Below w.heap.size w w4 from B2.out.2.trans (H4.out.2.mono B2.out.2.size))
        have M0 := Aside0.mk (And.intro (show (w4.alloc (.cells #[] 2)).ownsRow w4.heap.size 2 1 (.slice (some ⟨w4.heap.size, 0, none⟩) 0 0) 0 [] from World.ownsRow_made w4 #[] 0 (Nat.le_refl _) (Nat.zero_le _) (by simp)) (below_alloc (Below.refl _ w4) (.cells #[] 2)))
        clear B1
        go_loopg [15, 16, 59] (kk + 1) (fun kx s15 s16 s59 wr => ∃ (j : Nat) (v : Value), v = s15 ∧ s16 = .int .i64 (PP.take j).sum ∧ s59 = .int .i64 (j : Int) ∧ Hid (j ≤ kk ∧ kk < j + kx) ∧ Aside0 (wr.ownsRow w4.heap.size 2 1 v j (nums .i64 (PP.take j)) ∧ Below w4.heap.size w4 wr))
        case atStart => exact ⟨0, _, rfl, rfl, rfl, ⟨by omega, by omega⟩, M0⟩
        case round =>
          clear M0
          obtain ⟨j, v, rfl, rfl, rfl, hj, H5⟩ := hrel
          by_cases cj : j < kk
          · have cj' : (j : Int) < (kk : Int) := by omega
            obtain ⟨p, ep, hp, hp2⟩ := HO.out.2 j cj
            obtain ⟨p0, ep0, hp0, hp02⟩ := HO.out.2 0 (by omega)
            obtain ⟨ad, rfl, hc1⟩ := HCL.out p hp
            obtain ⟨ad', ea, hc2⟩ := HCL.out p0 hp0
            obtain rfl : ad = ad' := by injection ea
            have hPj := HP.out.2.2.2 j cj
            rw [ep, ep0, Int.toNat_natCast, Int.toNat_natCast] at hPj
            obtain ⟨x, hx⟩ : ∃ x, x = L.getD p 0 := ⟨_, rfl⟩
            obtain ⟨y, hy⟩ : ∃ y, y = L.getD p0 0 := ⟨_, rfl⟩
            rw [← hx] at hc1 hPj
            rw [← hy] at hc2 hPj
            have lt : ∀ (a : Addr) v, w4.cell? a = some v → wr.cell? a = some v := fun a v h => by
              have hl := World.block_lt_of_cell? w4 a h
              simpa [World.cell?, H5.out.2.block a.block hl] using h
            have a1 := lt _ _ hc1
            have a2 := lt _ _ hc2
            have cell : ∀ i (q : Nat), i < L.length → (orderL L).getD i 0 = (q : Int) → wr.cell? ⟨b, i, none⟩ = some (.int .i64 (q : Int)) := fun i q hi hq => by
              apply lt
              rw [H4.out.1.cellAt i (by rw [orderL_len]; omega), ← hq]
              have hol : i < (orderL L).length := by rw [orderL_len]; exact hi
              simp [nums, List.getD_eq_getElem?_getD, List.getElem?_eq_getElem hol]
            have a4 := cell j p (by have := HK.out; omega) hp2
            have a5 := cell 0 p0 (by have := HK.out; omega) hp02
            have b1 : wr.drew.cell? (ad.add p) = some (.int .i64 x) := a1
            have b2 : wr.drew.cell? (ad.add p0) = some (.int .i64 y) := a2
            have b5 : wr.drew.cell? ⟨b, 0, none⟩ = some (.int .i64 (p0 : Int)) := a5
            have n1 : (p : Int) < (L.length : Int) := by omega
            have n2 : (p0 : Int) < (L.length : Int) := by omega
            have n3 : (0 : Int) ≤ (p : Int) := by omega
            have n4 : (0 : Int) ≤ (p0 : Int) := by omega
            have n5 : (0 : Int) < (kk : Int) := by omega
            have n6 : 0 < kk := by omega
            have n7 : ¬ kk = 0 := by omega
            have n8 : ¬ kk ≤ 0 := by omega
            have HPJ := Aside0.mk hPj
            clear lt cell hx hy ea hc1 hc2 hPj ep ep0 hp2 hp02
            go_wp2_with fail
            go_region_held3 (fun w' => w'.cell? (ad.add p) = some (.int .i64 x) ∧ w'.cell? (ad.add p0) = some (.int .i64 y) ∧ w'.cell? ⟨b, 0, none⟩ = some (.int .i64 (p0 : Int))) (first | exact ⟨e1, e2, e5⟩ | exact ⟨b1, b2, b5⟩)
              ((go_at_call 40; refine (exp_r x y _).mono ?_; rintro e w6 ⟨rfl, hB6⟩; have B6 := Aside0.mk hB6; have lt6 : ∀ (a : Addr) v, wr.drew.cell? a = some v → w6.cell? a = some v := (fun a v h => by have hl := World.block_lt_of_cell? wr.drew a h; simpa [World.cell?, hB6.block a.block hl] using h); have e1 := lt6 _ _ b1; have e2 := lt6 _ _ b2; have e5 := lt6 _ _ b5; clear hB6 lt6))
            rw [← HPJ.out]
            obtain ⟨z, hz⟩ : ∃ z, z = PP.getD j 0 := ⟨_, rfl⟩
            have HZ := Aside0.mk hz
            rw [← hz]
            clear HPJ hz e1 e2 e5 b1 b2 b5 a1 a2 a4 a5
            have H6 := Aside0.mk (And.intro (own_move H5.out.1 (fun k hk => B6.out.block k (own_lt H5.out.1 k hk))) (H5.out.2.drew.trans (B6.out.mono H5.out.2.size)))
            have HSB := Aside0.mk (sum_bounds (PP.take j) (fun x hx => HP.out.2.1 x (List.mem_of_mem_take hx)))
            have HZB := Aside0.mk (show 0 ≤ z ∧ z ≤ 2147483648 by rw [HZ.out, List.getD_eq_getElem?_getD, List.getElem?_eq_getElem (by rw [HP.out.1]; exact cj)]; exact HP.out.2.1 _ (List.getElem_mem _))
            obtain ⟨sj, hsj⟩ : ∃ sj, sj = (PP.take j).sum := ⟨_, rfl⟩
            have HSJ := Aside0.mk hsj
            rw [← hsj]
            clear hsj
            clear B6 H5
            go_wp2_with (at_builtin; (refine print_append_cells (w0 := w4) w4.heap.size rfl (.tmp 76) (.tmp 78) 38 2 (.int .i64 0) 1 8 rfl Try.underlying38 info64 rfl (by decide) (by decide) v j (nums .i64 (PP.take j)) [.int .i64 z] rfl rfl rfl (by intro u hu; rw [List.mem_singleton.1 hu]; rfl) H6.out.1 H6.out.2 H6.out.2.size (by have := HLn.out; have := HK.out; omega) ?_); intro v7 w7 hown7 hbel7 hg7 hat7; have H7 := Aside0.mk (And.intro hown7 hbel7); clear hown7 hbel7 hg7 hat7)
            go_roundg (kk + 1 - (j + 1))
            case measure => have := hj.out; omega
            case rel => exact ⟨j + 1, _, rfl, congrArg (Value.int .i64) (by
              rw [take_next PP j (by rw [HP.out.1]; exact cj), List.sum_append, List.sum_singleton, ← HZ.out, ← HSJ.out]
              have h1 := HSB.out
              rw [← HSJ.out, List.length_take] at h1
              have := HZB.out
              have := HLn.out
              have := HK.out
              unfold wrap64
              omega), congrArg (Value.int .i64) (by have := HLn.out; have := HK.out; unfold wrap64; omega), ⟨by omega, by have := hj.out; omega⟩, ⟨by rw [take_next PP j (by rw [HP.out.1]; exact cj), ← HZ.out, show nums .i64 (PP.take j ++ [z]) = nums .i64 (PP.take j) ++ [.int .i64 z] by simp [nums]]; exact H7.out.1, H7.out.2⟩⟩
          · obtain rfl : j = kk := by have := hj.out; omega
            have H6 := Aside0.mk (show wr.ownsRow w4.heap.size 2 1 v j (nums .i64 PP) ∧ Below w4.heap.size w4 wr from by have h1 := H5.out; rw [List.take_of_length_le (by rw [HP.out.1]; exact Nat.le_refl _)] at h1; exact h1)
            have hPt : PP.take j = PP := List.take_of_length_le (by rw [HP.out.1]; exact Nat.le_refl _)
            rw [hPt]
            obtain ⟨g, cw, rfl⟩ : ∃ g cw, v = .slice (some ⟨g, 0, none⟩) j cw := by
              rcases H6.out.1.2 with ⟨_, h0⟩ | ⟨g, cap, _, e, _⟩
              · have := HK.out; omega
              · exact ⟨g, cap, e⟩
            obtain ⟨sm, hsm⟩ : ∃ sm, sm = PP.sum := ⟨_, rfl⟩
            have HSM := Aside0.mk (show sm = PP.sum ∧ 1073741824 ≤ sm ∧ sm ≤ 2147483648 * (j : Int) from by
              have h1 := HP.out.2.2.1
              have h2 := (sum_bounds PP HP.out.2.1).2
              rw [HP.out.1] at h2
              rw [hsm]
              exact ⟨rfl, h1, h2⟩)
            rw [← hsm]
            obtain ⟨QQ, hQQ⟩ : ∃ QQ, QQ = quoL PP := ⟨_, rfl⟩
            have HQQ := Aside0.mk (show QQ = quoL PP ∧ QQ.length = j ∧ (∀ i, 0 ≤ (QQ.take i).sum ∧ (QQ.take i).sum ≤ 65536) ∧ ∀ i, i < j → QQ.getD i 0 = Int.tdiv (65536 * PP.getD i 0) sm from by
              refine ⟨hQQ, by rw [hQQ]; unfold quoL; rw [List.length_map]; exact HP.out.1, fun i => by rw [hQQ]; exact quo_take PP HP.out.2.1 (by have := HP.out.2.2.1; omega) i, fun i hi => ?_⟩
              rw [hQQ, hsm]
              unfold quoL
              rw [List.getD_eq_getElem?_getD, List.getElem?_map, List.getD_eq_getElem?_getD, List.getElem?_eq_getElem (by rw [HP.out.1]; exact hi)]
              rfl)
            clear hj cj H5 hPt hsm hQQ
            obtain ⟨W5, hW5⟩ : ∃ W5, W5 = wr := ⟨_, rfl⟩
            subst hW5
            have M0 := Aside0.mk (And.intro (show (W5.alloc (.cells #[] 2)).ownsRow W5.heap.size 2 1 (.slice (some ⟨W5.heap.size, 0, none⟩) 0 0) 0 [] from World.ownsRow_made W5 #[] 0 (Nat.le_refl _) (Nat.zero_le _) (by simp)) (below_alloc (Below.refl _ W5) (.cells #[] 2)))
            go_wp2_with fail
            go_loopg [20, 21, 87] (j + 1) (fun kx s20 s21 s87 wr => ∃ (i : Nat) (v : Value) (ms : Int), v = s20 ∧ s21 = .int .i64 ms ∧ s87 = .int .i64 (i : Int) ∧ Hid (i ≤ j ∧ j < i + kx ∧ ms = 65536 - (QQ.take i).sum) ∧ Aside0 (wr.ownsRow W5.heap.size 2 1 v i (nums .i64 (QQ.take i)) ∧ Below W5.heap.size W5 wr))
            case atStart => exact ⟨0, _, _, rfl, rfl, rfl, ⟨by omega, by omega, by simp⟩, M0⟩
            case round =>
              clear M0
              obtain ⟨i, v, ms, rfl, rfl, rfl, hj, M1⟩ := hrel
              by_cases ci : i < j
              · have ci' : (i : Int) < (j : Int) := by omega
                obtain ⟨x, hx⟩ : ∃ x, x = PP.getD i 0 := ⟨_, rfl⟩
                have HXB := Aside0.mk (show x = PP.getD i 0 ∧ 0 ≤ x ∧ x ≤ 2147483648 from by rw [hx]; exact ⟨rfl, by rw [List.getD_eq_getElem?_getD, List.getElem?_eq_getElem (by rw [HP.out.1]; exact ci)]; exact HP.out.2.1 _ (List.getElem_mem _)⟩)
                have a1 : wr.cell? ⟨g, i, none⟩ = some (.int .i64 x) := by
                  have hl : i < PP.length := by rw [HP.out.1]; exact ci
                  have h5 : W5.cell? ⟨g, i, none⟩ = some (.int .i64 x) := by
                    rw [H6.out.1.cellAt i (by omega), hx]
                    simp [nums, List.getD_eq_getElem?_getD, List.getElem?_eq_getElem hl]
                  have hg := World.block_lt_of_cell? W5 _ h5
                  simpa [World.cell?, M1.out.2.block g hg] using h5
                have w1' : wrap64 (65536 * x) = 65536 * x := by have := HXB.out; unfold wrap64; omega
                have w2' : IntKind.i64.wrap (65536 * x) = 65536 * x := by rw [wrap_eq]; exact w1'
                have w3' : sm ≠ 0 := by have := HSM.out; omega
                have w4' : ¬ sm = 0 := w3'
                have w5' : (sm == 0) = false := by simpa using w3'
                clear hx
                have HQ := Aside0.mk (show Int.tdiv (65536 * x) sm = QQ.getD i 0 ∧ 0 ≤ QQ.getD i 0 ∧ QQ.getD i 0 ≤ 65536 ∧ (QQ.take (i + 1)).sum = (QQ.take i).sum + QQ.getD i 0 from by
                  have h1 := take_next QQ i (by rw [HQQ.out.2.1]; exact ci)
                  have h2 := HQQ.out.2.2.1 i
                  have h3 := HQQ.out.2.2.1 (i + 1)
                  rw [h1, List.sum_append, List.sum_singleton] at h3
                  have h4 := HQQ.out.2.2.2 i ci
                  have h5 := Int.tdiv_nonneg (show 0 ≤ 65536 * x by have := HXB.out; omega) (show 0 ≤ sm by have := HSM.out; omega)
                  rw [HXB.out.1] at h5 ⊢
                  exact ⟨h4.symm, by rw [h4]; exact h5, by omega, by rw [h1, List.sum_append, List.sum_singleton]⟩)
                obtain ⟨q, hq⟩ : ∃ q, q = QQ.getD i 0 := ⟨_, rfl⟩
                have HQE := Aside0.mk hq
                have w6' : wrap64 (Int.tdiv (65536 * x) sm) = q := by have h := HQ.out; rw [hq, h.1]; unfold wrap64; omega
                have w7' : IntKind.i64.wrap (Int.tdiv (65536 * x) sm) = q := by rw [wrap_eq]; exact w6'
                clear hq
                go_wp2_with (at_builtin; (refine print_append_cells (w0 := W5) W5.heap.size rfl (.tmp 91) (.tmp 96) 38 2 (.int .i64 0) 1 8 rfl Try.underlying38 info64 rfl (by decide) (by decide) v i (nums .i64 (QQ.take i)) [.int .i64 q] rfl rfl rfl (by intro u hu; rw [List.mem_singleton.1 hu]; rfl) M1.out.1 M1.out.2 M1.out.2.size (by have := HLn.out; have := HK.out; omega) ?_); intro v7 w7 hown7 hbel7 hg7 hat7; have H7 := Aside0.mk (And.intro hown7 hbel7); clear hown7 hbel7 hg7 hat7)
                go_roundg (j + 1 - (i + 1))
                case measure => have := hj.out; omega
                case rel => exact ⟨i + 1, _, _, rfl, rfl, congrArg (Value.int .i64) (by have := HLn.out; have := HK.out; unfold wrap64; omega), ⟨by omega, by have := hj.out; omega, by
                  have h := HQ.out
                  have h2 := HQQ.out.2.2.1 i
                  have h3 := hj.out.2.2
                  rw [h.2.2.2, h3, HQE.out]
                  unfold wrap64
                  omega⟩, ⟨by rw [take_next QQ i (by rw [HQQ.out.2.1]; exact ci), ← HQE.out, show nums .i64 (QQ.take i ++ [q]) = nums .i64 (QQ.take i) ++ [.int .i64 q] by simp [nums]]; exact H7.out.1, H7.out.2⟩⟩
              · obtain rfl : i = j := by have := hj.out; omega
                have hms := hj.out.2.2
                have hQt : QQ.take i = QQ := List.take_of_length_le (by rw [HQQ.out.2.1]; exact Nat.le_refl _)
                have M2 := Aside0.mk (show wr.ownsRow W5.heap.size 2 1 v i (nums .i64 QQ) ∧ Below W5.heap.size W5 wr from by have h := M1.out; rw [hQt] at h; exact h)
                obtain ⟨g2, c2, rfl⟩ : ∃ g2 c2, v = .slice (some ⟨g2, 0, none⟩) i c2 := by
                  rcases M2.out.1.2 with ⟨_, h0⟩ | ⟨g, cap, _, e, _⟩
                  · have := HK.out; omega
                  · exact ⟨g, cap, e⟩
                have HMS := Aside0.mk (show ms = 65536 - QQ.sum from by rw [hms, hQt])
                have HQ0 := Aside0.mk (show 0 ≤ QQ.sum ∧ QQ.sum ≤ 65536 ∧ 0 ≤ QQ.getD 0 0 ∧ QQ.getD 0 0 ≤ 65536 from by
                  have h1 := HQQ.out.2.2.1 i
                  rw [hQt] at h1
                  have h2 := HQQ.out.2.2.1 1
                  have h0 : 0 < QQ.length := by rw [HQQ.out.2.1]; have := HK.out; omega
                  rw [take_next QQ 0 h0, List.take_zero, List.nil_append, List.sum_singleton] at h2
                  omega)
                obtain ⟨q0, hq0⟩ : ∃ q0, q0 = QQ.getD 0 0 := ⟨_, rfl⟩
                have a1 : wr.cell? ⟨g2, 0, none⟩ = some (.int .i64 q0) := by
                  rw [M2.out.1.cellAt 0 (by have := HK.out; omega), hq0]
                  have h0 : 0 < QQ.length := by rw [HQQ.out.2.1]; have := HK.out; omega
                  simp [nums, List.getD_eq_getElem?_getD, List.getElem?_eq_getElem h0]
                have a2 : wr.frozen? ⟨g2, 0, none⟩ = false := M2.out.1.frozenAt 0
                have n6 : 0 < i := by have := HK.out; omega
                have n5 : (0 : Int) < (i : Int) := by omega
                have w1' : wrap64 (q0 + ms) = q0 + ms := by have h1 := HQ0.out; have h2 := HMS.out; rw [← hq0] at h1; unfold wrap64; omega
                have w2' : IntKind.i64.wrap (q0 + ms) = q0 + ms := by rw [wrap_eq]; exact w1'
                have HQ1 := Aside0.mk hq0
                clear hj ci M1 hms hQt hq0
                go_wp2_with fail
                go_ret3
                have M3 : (wr.setCell ⟨g2, 0, none⟩ (.int .i64 (q0 + ms))).ownsRow W5.heap.size 2 1 (.slice (some ⟨g2, 0, none⟩) i c2) i (nums .i64 (QQ.set 0 (q0 + ms))) ∧ Below W5.heap.size W5 (wr.setCell ⟨g2, 0, none⟩ (.int .i64 (q0 + ms))) := by
                  refine ⟨?_, below_set (a := ⟨g2, 0, none⟩) M2.out.2 (own_base M2.out.1 g2 rfl) _⟩
                  have key : ∀ (l : List Int) (k : Nat) (u : Int), nums .i64 (l.set k u) = (nums .i64 l).set k (.int .i64 u) := fun l k u => by simp [nums, List.map_set]
                  rw [key]
                  exact (M2.out.1.stored 0 (.int .i64 (q0 + ms))).1
                obtain ⟨eO, eP, eE⟩ := HW.out
                have eW : P = QQ.set 0 (q0 + ms) := by rw [eP]; unfold wholeL; rw [← HQQ.out.1, HQ1.out, HMS.out]
                have h5 := H6.out.2.trans (M3.2.mono H6.out.2.size)
                have hB : Below w.heap.size w (wr.setCell ⟨g2, 0, none⟩ (.int .i64 (q0 + ms))) := HBW.out.trans (h5.mono HBW.out.size)
                have hC := own_take (own_move H4.out.1 (fun k hk => h5.block k (own_lt H4.out.1 k hk))) (m := i) (by rw [orderL_len]; have := HK.out; omega)
                have hC2 : Kd.C (Kd.int .i64) (wr.setCell ⟨g2, 0, none⟩ (.int .i64 (q0 + ms))) (some ⟨b, 0, none⟩) i OO := by
                  have e : ((nums .i64 (orderL L)).take (i * 1)) = nums .i64 OO := by
                    have e1 : (nums .i64 (orderL L)).take i = nums .i64 ((orderL L).take i) := by simp [nums, List.map_take]
                    rw [Nat.mul_one, e1, ← HOE.out]
                  rw [e] at hC
                  exact Kd.C_of_reads (d := (0 : Int)) (own_reads_of' (enc := Value.int .i64) hC)
                subst eO
                subst eE
                refine ⟨_, _, rfl, ⟨some ⟨b, 0, none⟩, cap, ?_, by rw [HO.out.1]; exact hkc, ?_⟩, ?_, hB⟩
                · rw [HO.out.1]
                  rfl
                · have h := hC2
                  rw [← HO.out.1] at h
                  exact h
                · rw [eW]
                  refine Kd.R_of_own (enc := Value.int .i64) ?_ (fun _ _ => trivial)
                  have hl : (QQ.set 0 (q0 + ms)).length = i := by rw [List.length_set]; exact HQQ.out.2.1
                  have h := own_less M3.1 (Nat.le_trans HBW.out.size H6.out.2.size)
                  rw [hl]
                  exact h
end Go.Proofs.Ytjcfhgpaipbedaa.Ch
