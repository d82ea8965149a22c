/- A pool of whole numbers: where a place goes back (slices.BinarySearchFunc over the falling free places). -/
import Derived.Deep.LoopGhost
import Derived.Test.YtmcmkdpidppcaaaPoolD
namespace Go.Proofs.Ytmcmkdpidppcaaa.St
open Go.Proofs Go.RowKit Go.Proofs.YtmcmkdpidppcaaaW.PrintWords Go.Proofs.YtmcmkdpidppcaaaW.PrintLast Go.Proofs.YtmcmkdpidppcaaaW.PrintMore
set_option maxRecDepth 100000 in
theorem cmp_calls (a b : Int) (w : World) : Calls Try.prog 36 #[.int .i64 a, .int .i64 b] w fun e w' => e = .returned (.int .i64 (wrap64 (b - a))) ∧ w' = w := by
  go_enter Try.func36, Try.ntmps36
  go_wp2
  go_ret
  exact ⟨rfl, rfl⟩
theorem mid_is (i j : Nat) (hi : i ≤ 65536) (hj : j ≤ 65536) : wrap64 (IntKind.u64.wrap (wrap64 ((i : Int) + (j : Int))) / 2) = (((i + j) / 2 : Nat) : Int) := by
  have e1 : wrap64 ((i : Int) + (j : Int)) = ((i + j : Nat) : Int) := by unfold wrap64; omega
  have e2 : IntKind.u64.wrap ((i + j : Nat) : Int) = ((i + j : Nat) : Int) := by
    simp [IntKind.wrap, IntKind.bits, IntKind.signed]
    omega
  rw [e1, e2]
  unfold wrap64
  omega
set_option maxRecDepth 100000 in
set_option maxHeartbeats 2000000 in
theorem search_calls {n0 : Nat} {w : World} {g cap : Nat} {F : List Int} (hown : w.ownsRow n0 3 1 (.slice (some ⟨g, 0, none⟩) F.length cap) F.length (F.map (Value.int .i64))) (x : Int) (hx : 0 ≤ x ∧ x < 65536) (hF : ∀ j, j < F.length → 0 ≤ F.getD j 0 ∧ F.getD j 0 < 65536) (hlen : F.length ≤ 65536) (hsort : ∀ i j, i < j → j < F.length → F.getD j 0 < F.getD i 0) :
    Calls Try.prog 35 #[.slice (some ⟨g, 0, none⟩) F.length cap, .int .i64 x, .func (.func 36) #[] #[]] w fun e w' => ∃ (k : Nat) (t : Bool), e = .returned (.tuple #[.int .i64 (k : Int), .bool t]) ∧ k ≤ F.length ∧ (∀ j, j < k → x < F.getD j 0) ∧ (∀ j, k ≤ j → j < F.length → F.getD j 0 ≤ x) ∧ ∃ q, w' = w.drewN q := by
  have HC : Aside0 (∀ j, j < F.length → w.cell? ⟨g, j, none⟩ = some (.int .i64 (F.getD j 0))) := ⟨fun j hj => own_cell hown j _ (by rw [List.getElem?_map, List.getElem?_eq_getElem hj, List.getD_eq_getElem?_getD, List.getElem?_eq_getElem hj]; rfl)⟩
  have HX := Go.Lib.hid hx
  have HF := Go.Lib.hid hF
  have HL := Go.Lib.hid hlen
  have HS := Go.Lib.hid hsort
  clear hown hx hF hlen hsort
  go_enter Try.func35, Try.ntmps35
  go_wp2
  go_loopg [9, 10] (F.length + 1) (fun kx s9 s10 wr => ∃ (i j : Nat), s9 = .int .i64 (i : Int) ∧ s10 = .int .i64 (j : Int) ∧ Hid (i ≤ j ∧ j ≤ F.length ∧ j - i < kx) ∧ Aside0 (∀ k, k < i → x < F.getD k 0) ∧ Aside0 (∀ k, j ≤ k → k < F.length → F.getD k 0 ≤ x) ∧ Aside0 (∃ q, wr = w.drewN q))
  case atStart => exact ⟨0, F.length, rfl, rfl, ⟨Nat.zero_le _, Nat.le_refl _, by omega⟩, ⟨fun k hk => by omega⟩, ⟨fun k h1 h2 => by omega⟩, ⟨⟨0, rfl⟩⟩⟩
  case round =>
    obtain ⟨i, j, rfl, rfl, hij, H1, H2, HQ⟩ := hrel
    obtain ⟨q, hq⟩ := HQ.out
    have HQ2 : Aside0 (∃ q, wr = w.drewN q) := ⟨⟨q, hq⟩⟩
    have cell : Aside0 (∀ m, m < F.length → wr.cell? ⟨g, m, none⟩ = some (.int .i64 (F.getD m 0))) := ⟨fun m hm => by rw [hq]; exact HC.out m hm⟩
    clear hq HQ
    by_cases hlt : i < j
    · have hb := hij.out
      have hl := HL.out
      obtain ⟨m, hm⟩ : ∃ m, m = (i + j) / 2 := ⟨_, rfl⟩
      have hmid := mid_is i j (by omega) (by omega)
      rw [← hm] at hmid
      have hm1 : i ≤ m ∧ m < j := by omega
      have hml : m < F.length := by omega
      have hcm := cell.out m hml
      have hy := HF.out m hml
      obtain ⟨y, ey⟩ : ∃ y, y = F.getD m 0 := ⟨_, rfl⟩
      rw [← ey] at hcm hy
      have HY := Aside0.mk ey
      have hxx := HX.out
      have z1 : decide ((i : Int) < (j : Int)) = true := decide_eq_true (by omega)
      have z2 : wrap64 (x - y) = x - y := by unfold wrap64; omega
      have z3 : 0 ≤ (m : Int) := by omega
      have z4 : (m : Int) < (F.length : Int) := by omega
      have HM := Go.Lib.hid (And.intro hm1 hml)
      by_cases c : x < y
      · have z5 : decide (x - y < 0) = true := decide_eq_true (by omega)
        have HCM := Aside0.mk c
        clear hb hl hm hm1 hml hy hxx ey c
        go_wp2_with (go_at_call 36; refine (cmp_calls y x _).mono ?_; rintro e w' ⟨rfl, rfl⟩)
        go_roundg (j - i)
        case measure => exact hij.out.2.2
        case rel =>
          have hm := HM.out
          have hl := HL.out
          have hb := hij.out
          refine ⟨m + 1, j, by (show Value.int .i64 (wrap64 ((m : Int) + 1)) = Value.int .i64 ((m + 1 : Nat) : Int); congr 1; unfold wrap64; omega), rfl, ⟨by omega, hb.2.1, by omega⟩, ⟨fun k hk => ?_⟩, H2, HQ2⟩
          by_cases ck : k = m
          · subst ck; rw [← HY.out]; exact HCM.out
          · have h1 := HS.out k m (by omega) (by omega)
            rw [← HY.out] at h1
            have := HCM.out
            omega
      · have z5 : decide (x - y < 0) = false := decide_eq_false (by omega)
        have HCM := Aside0.mk c
        clear hb hl hm hm1 hml hy hxx ey c
        go_wp2_with (go_at_call 36; refine (cmp_calls y x _).mono ?_; rintro e w' ⟨rfl, rfl⟩)
        go_roundg (j - i)
        case measure => exact hij.out.2.2
        case rel =>
          have hm := HM.out
          have hb := hij.out
          refine ⟨i, m, rfl, rfl, ⟨by omega, by omega, by omega⟩, H1, ⟨fun k h1 h2 => ?_⟩, HQ2⟩
          have hc := HCM.out
          by_cases ck : k = m
          · subst ck; rw [← HY.out]; omega
          · have h1 := HS.out m k (by omega) (by omega)
            rw [← HY.out] at h1
            omega
    · have hij2 := hij.out
      obtain rfl : i = j := by omega
      have z1 : decide ((i : Int) < (i : Int)) = false := decide_eq_false (by omega)
      have HB := Go.Lib.hid hij2.2.1
      by_cases c : i < F.length
      · have z2 : decide ((i : Int) < (F.length : Int)) = true := decide_eq_true (by omega)
        have hci := cell.out i c
        have z3 : 0 ≤ (i : Int) := by omega
        have z4 : (i : Int) < (F.length : Int) := by omega
        obtain ⟨y, ey⟩ : ∃ y, y = F.getD i 0 := ⟨_, rfl⟩
        rw [← ey] at hci
        clear ey hij2 hlt c hij
        go_wp2_with (go_at_call 36; refine (cmp_calls y x _).mono ?_; rintro e w' ⟨rfl, rfl⟩)
        go_ret2
        exact ⟨i, _, rfl, HB.out, H1.out, H2.out, HQ2.out⟩
      · have z2 : decide ((i : Int) < (F.length : Int)) = false := decide_eq_false (by omega)
        have z5 : decide (i < F.length) = false := decide_eq_false c
        clear hij2 hlt hij
        go_wp2_with fail
        go_ret2
        exact ⟨i, _, rfl, HB.out, H1.out, H2.out, HQ2.out⟩
end Go.Proofs.Ytmcmkdpidppcaaa.St
