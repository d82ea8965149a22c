/- heraldlaw07.RankSorts: its walk. -/
import Derived.Test.YtfegaffcalpmbaaRank3
import Derived.Test.YtfegaffcalpmbaaOrder
import Derived.Maps.Own
import Derived.Maps.OwnOps
import Derived.Maps.OwnSet
import Derived.Maps.Views
namespace Go.Proofs.Ytfegaffcalpmbaa.St
open Go.Proofs Go.Shelf Go.RowKit Go.Lib Go.Sort Go.Maps Go.Proofs.YtfegaffcalpmbaaW.PrintWords

theorem keyed_int : Keyed Try.prog 3 := int_keyed Try.underlying3
theorem zero_int (w : World) : (zeroValue 3).run Try.prog w = .ok (.int .i64 0) w := by kernel_rfl

theorem reads_int {k : IntKind} {w : World} {A0 : Option Addr} {l0 : List Int} (hr0 : Kd.C (Kd.int k) w A0 l0.length l0) : ∀ i : Nat, i < l0.length → ∃ ad, A0 = some ad ∧ w.cell? (ad.add i) = some (.int k (l0.getD i 0)) := by
  intro i hi
  obtain ⟨ad, c, e, _, hK, hc0⟩ := Kd.C_get hr0 0 (i : Int) (by omega) (by omega)
  have hK' : c = [.int k (l0.getD i 0)] := by rw [Int.toNat_natCast] at hK; exact hK
  subst hK'
  have h := hc0 0 _ rfl
  rw [Int.toNat_natCast] at h
  exact ⟨ad, e, by rw [show i * (Kd.int k).sz + 0 = i by show i * 1 + 0 = i; omega] at h; exact h⟩
theorem cell_below {w w' : World} {B : Nat} (h : Below B w w') {a : Addr} (hB : a.block < B) : w'.cell? a = w.cell? a := by
  unfold World.cell?
  rw [h.block a.block hB]
theorem cell_lt {w : World} {a : Addr} {v : Value} (h : w.cell? a = some v) : a.block < w.heap.size := by
  unfold World.cell? at h
  rcases Nat.lt_or_ge a.block w.heap.size with h2 | h2
  · exact h2
  · rw [Array.getElem?_eq_none h2] at h; cases h

set_option maxHeartbeats 1000000 in
set_option maxRecDepth 1000000 in
theorem rankSorts_calls (A0 : Option Addr) (c0 : Nat) (l0 : List Int) (t : Bool) (w : World) (hr0 : Kd.C (Kd.int .i64) w A0 l0.length l0) (hn : l0.length ≤ 17592186044415)
    (haw : ∀ W, Calls Try.prog 15 #[] W fun e w' => e = .returned (.bool t) ∧ Below W.heap.size W w') :
    Calls Try.prog 3 #[.slice A0 l0.length c0] w fun e w' => e = .returned (.bool t) ∧ Below w.heap.size w w' := by
  have mixed : Try.prog.follows .mixedOrders = true := by kernel_rfl
  have hmm := @run_makeMap Try.prog
  go_enter Try.func3, Try.ntmps3
  go_wp2_with fail
  ((with_reducible refine (order_calls A0 c0 l0 _ hr0 (by omega)).mono ?_))
  rintro e' w1 ⟨v, rfl, hR, hB⟩
  obtain ⟨A1, c1, rfl, hlc, hC⟩ := Kd.R_reads hR
  have hol : (orderL l0).length = l0.length := by rw [orderL_eq, List.length_map, orderN_length]
  have hC0 := reads_int (Kd.C_below hr0 hB)
  have hC1 := reads_int hC
  rw [hol] at hC1
  have B1 : Hid (Below w.heap.size w w1) := hB
  clear hr0 hR hC hlc hB
  go_wp2_with fail
  ((with_reducible refine (haw _).mono ?_))
  rintro e' w2 ⟨rfl, hB2⟩
  have sz1 : w.heap.size ≤ w1.heap.size := B1.out.size
  have B2 : Hid (Below w.heap.size w w2) := B1.out.trans (hB2.mono sz1)
  cases t with
  | false =>
    go_wp2
    go_ret
    exact ⟨rfl, B2.out⟩
  | true =>
    have keep : ∀ W, Below w2.heap.size w2 W → ∀ (a : Addr) (v : Value), w1.cell? a = some v → W.cell? a = some v := by
      intro W hW a v h
      have hlt := cell_lt h
      have h2 : w2.cell? a = some v := by rw [cell_below hB2 hlt]; exact h
      rw [cell_below hW (cell_lt h2)]
      exact h2
    have HO : Aside (∀ i : Nat, i < l0.length → ∃ ad, A1 = some ad ∧ w1.cell? (ad.add i) = some (.int .i64 ((orderN l0).getD i 0 : Nat))) := by
      intro i hi
      obtain ⟨ad, e, h⟩ := hC1 i hi
      refine ⟨ad, e, ?_⟩
      rw [h, orderL_eq]
      congr 2
      simp [List.getD_eq_getElem?_getD, orderN_length, hi]
    have HL : Aside (∀ i : Nat, i < l0.length → ∃ ad, A0 = some ad ∧ w1.cell? (ad.add i) = some (.int .i64 (l0.getD i 0))) := hC0
    have KP : Aside (∀ W, Below w2.heap.size w2 W → ∀ (a : Addr) (v : Value), w1.cell? a = some v → W.cell? a = some v) := keep
    clear hC0 hC1 keep hB2 haw
    have S0 : Aside ((w2.alloc (.map #[] 0)).ownsMap Try.prog 3 (plainElem (H := Unit) Try.prog 3) w2.heap.size 0 (.map [])) := World.ownsMap_made _ _ _ _
    have T0 : Aside (Below w2.heap.size w2 (w2.alloc (.map #[] 0))) := (Below.refl _ _).alloc (Nat.le_refl _) _
    go_wp2
    go_loopg [5] l0.length (fun kx s5 wr => ∃ (i : Nat) (D : DataW Unit), s5 = .int .i64 i ∧ i ≤ l0.length ∧ l0.length - i ≤ kx ∧ Aside (wr.ownsMap Try.prog 3 (plainElem Try.prog 3) w2.heap.size i D) ∧ Aside (Below w2.heap.size w2 wr) ∧ Hid (Maps.size D = i) ∧ Aside (∀ x : Nat, Maps.has D (.int .i64 x) = true → x ∈ (orderN l0).take i))
    case atStart => exact ⟨0, .map [], rfl, by omega, by omega, S0, T0, rfl, by intro x h; simp [Maps.has] at h⟩
    case round =>
      clear S0 T0
      obtain ⟨i, D, rfl, hi, hkx, HM, HB, HZ, HH⟩ := hrel
      by_cases hlt : i < l0.length
      · have hltz : (i : Int) < (l0.length : Int) := by omega
        have hp := orderN_get l0 i hlt
        obtain ⟨a1, rfl, ho⟩ := HO.out i hlt
        obtain ⟨p, hpe⟩ : ∃ p, p = (orderN l0).getD i 0 := ⟨_, rfl⟩
        rw [← hpe] at ho hp
        have ho1 := KP.out _ HB.out _ _ ho
        have hpz : (p : Int) < (l0.length : Int) := by omega
        have hp0 : ¬ (p : Int) < 0 := by omega
        have hpg : ¬ (p : Int) ≥ (l0.length : Int) := by omega
        have HPE : Hid (p = (orderN l0).getD i 0) := hpe
        clear hpe
        have hkey : keyOf Try.prog 3 (.int .i64 (p : Int)) = some (.int .i64 (p : Int)) := keyOf_int_mk Try.underlying3 (WalkArith.wf_i64 (by omega))
        have hown := HM.out
        go_wp2_with (first
          | (at_lookup; refine wpList_lookup_own_int _ rfl _ _ 26 rfl 3 3 .i64 keyed_int Try.underlying26 Try.underlying3 (zero_int _) w2.heap.size i _ rfl hown _ _ rfl hkey ?_; intro c hat hwc)
          | (at_mapUpdate; refine wpList_mapUpdate_own _ rfl _ _ _ 26 rfl 3 3 keyed_int Try.underlying26 _ w2.heap.size i _ rfl hown (by unfold maxLen; omega) _ _ _ rfl rfl hkey _ [] (plainElem_int Try.underlying3 (wrap64_wf _)) ?_; intro w3 hown1 hgrow1))
        have HB3 : Aside (Below w2.heap.size w2 w3) := HB.out.grown hgrow1 HB.out.size (fun j hj => by cases hj; exact Nat.le_refl _)
        have HM3 : Aside (w3.ownsMap Try.prog 3 (plainElem Try.prog 3) w2.heap.size (i + 1) (D.put (.int .i64 (p : Int)) (.lit (.int .i64 (wrap64 (c + 1)))))) := hown1
        have ho3 := KP.out _ HB3.out _ _ ho
        have hZH : Hid (Maps.size (D.put (.int .i64 (p : Int)) (.lit (.int .i64 (wrap64 (c + 1))))) = i + 1) ∧ Aside (∀ x : Nat, Maps.has (D.put (.int .i64 (p : Int)) (.lit (.int .i64 (wrap64 (c + 1))))) (.int .i64 x) = true → x ∈ (orderN l0).take (i + 1)) := by
          have ht := hown.tidy keyed_int
          have hol : i < (orderN l0).length := by rw [orderN_length]; exact hlt
          have hpi : (orderN l0)[i] = p := by
            rw [HPE.out, List.getD_eq_getElem?_getD, List.getElem?_eq_getElem hol]; rfl
          have htk : (orderN l0).take (i + 1) = (orderN l0).take i ++ [p] := by
            rw [List.take_succ_eq_append_getElem hol, hpi]
          have hno : ¬ Maps.has D (.int .i64 (p : Int)) = true := by
            intro hh
            have h1 := HH.out p hh
            have h2 := (orderN_nodup l0).sublist (List.take_sublist (i + 1) _)
            rw [htk, List.nodup_append] at h2
            exact h2.2.2 p h1 p (List.mem_singleton.2 rfl) rfl
          refine ⟨by show _ = _; rw [size_put ht, if_neg hno, HZ.out], fun x hx => ?_⟩
          rw [htk]
          by_cases e : (Lit.int .i64 (x : Int)) = Lit.int .i64 (p : Int)
          · injection e with _ e
            have : x = p := by omega
            rw [this]
            exact List.mem_append_right _ (List.mem_singleton.2 rfl)
          · rw [has_put_other e] at hx
            exact List.mem_append_left _ (HH.out x hx)
        obtain ⟨HZ3, HH3⟩ := hZH
        have HBq : Aside (∀ q, Below w2.heap.size w2 (w3.drewN q)) := fun q => ⟨HB3.out.os, HB3.out.tape, HB3.out.output, HB3.out.size, HB3.out.block⟩
        have HMq : Aside (∀ q, (w3.drewN q).ownsMap Try.prog 3 (plainElem Try.prog 3) w2.heap.size (i + 1) (D.put (.int .i64 (p : Int)) (.lit (.int .i64 (wrap64 (c + 1)))))) := fun _ => HM3.out
        clear hown1 hgrow1 hat hwc hown HZ HH HM HB ho1 hkey
        by_cases hi0 : i = 0
        · subst hi0
          have t1 : ¬ ((0 : Nat) : Int) > 0 := by omega
          have t2 : decide (((0 : Nat) : Int) > 0) = false := by decide
          go_quiet (fail)
          go_wp2
          go_roundg (l0.length - 1)
          case measure => omega
          case rel => exact ⟨1, _, by go_num, by omega, Nat.le_refl _, HMq.out _, HBq.out _, HZ3, HH3⟩
        · obtain ⟨j, hji⟩ : ∃ j, j + 1 = i := ⟨i - 1, by omega⟩
          have t2 : decide ((i : Int) > 0) = true := by rw [decide_eq_true_iff]; omega
          have t3 : 0 < i := by omega
          have t4 : decide (0 < i) = true := decide_eq_true t3
          obtain ⟨a1', e1, hq⟩ := HO.out j (by omega)
          injection e1 with e1
          subst e1
          obtain ⟨q, hqe⟩ : ∃ q, q = (orderN l0).getD j 0 := ⟨_, rfl⟩
          have hql := orderN_get l0 j (by omega)
          rw [← hqe] at hq hql
          have hah : Ahead l0 q p := by
            have h := (List.pairwise_iff_getElem.1 (orderN_spec l0).2) j i (by rw [orderN_length]; omega) (by rw [orderN_length]; omega) (by omega)
            have e2 : (orderN l0)[j]'(by rw [orderN_length]; omega) = q := by
              rw [hqe, List.getD_eq_getElem?_getD, List.getElem?_eq_getElem (by rw [orderN_length]; omega)]; rfl
            have e3 : (orderN l0)[i]'(by rw [orderN_length]; omega) = p := by
              rw [HPE.out, List.getD_eq_getElem?_getD, List.getElem?_eq_getElem (by rw [orderN_length]; omega)]; rfl
            rw [e2, e3] at h
            exact h
          obtain ⟨ad, rfl, hx⟩ := HL.out p (by omega)
          obtain ⟨ad', e4, hy⟩ := HL.out q (by omega)
          injection e4 with e4
          subst e4
          have hq3 := KP.out _ HB3.out _ _ hq
          have hx3 := KP.out _ HB3.out _ _ hx
          have hy3 := KP.out _ HB3.out _ _ hy
          have hqz : (q : Int) < (l0.length : Int) := by omega
          have hpj : (i : Int) - 1 = (j : Int) := by omega
          have hji2 : j ≤ i := by omega
          have hjz : (j : Int) < (l0.length : Int) := by omega
          unfold Ahead at hah
          generalize l0.getD p 0 = x at hx3 hah
          generalize l0.getD q 0 = y at hy3 hah
          have c1 : decide (y < x) = false := by rw [decide_eq_false_iff_not]; omega
          clear hq hx hy hqe HM3 HB3 hji hi0
          by_cases ceq : y = x
          · have c2 : (y == x) = true := by rw [beq_iff_eq]; exact ceq
            have c3 : decide ((q : Int) > (p : Int)) = false := by rw [decide_eq_false_iff_not]; omega
            have c4 : ¬ (q : Int) > (p : Int) := by omega
            have c5 : ¬ y < x := by omega
            clear hah
            go_quiet (fail)
            go_wp2
            go_roundg (l0.length - (i + 1))
            case measure => omega
            case rel => exact ⟨i + 1, _, by go_num, by omega, Nat.le_refl _, HMq.out _, HBq.out _, HZ3, HH3⟩
          · have c2 : (y == x) = false := by rw [beq_eq_false_iff_ne]; exact ceq
            have c5 : ¬ y < x := by omega
            clear hah
            go_quiet (fail)
            go_wp2
            go_roundg (l0.length - (i + 1))
            case measure => omega
            case rel => exact ⟨i + 1, _, by go_num, by omega, Nat.le_refl _, HMq.out _, HBq.out _, HZ3, HH3⟩
      · have hltz : ¬ (i : Int) < (l0.length : Int) := by omega
        obtain rfl : i = l0.length := by omega
        have hown := HM.out
        have hZ : Maps.size D = l0.length := HZ.out
        have hZb : ((Maps.size D : Int) == (l0.length : Int)) = true := by rw [hZ]; simp
        go_wp2_with (at_len; refine wpList_len_own _ rfl _ 26 rfl 3 3 Try.underlying26 _ w2.heap.size _ _ rfl hown ?_)
        go_ret
        refine ⟨?_, B2.out.trans (HB.out.mono B2.out.size)⟩
        first
          | rfl
          | (rw [hZb]; rfl)
          | (simp [hZ]; done)
end Go.Proofs.Ytfegaffcalpmbaa.St
