/- slices.Max at []int64. -/
import Derived.WalkKit
import Derived.Deep.LoopGhost
import Derived.Deep.QuietTactic
import Derived.Shelf.SlSortCmp.Kit1
import Derived.Test.YtmjepdhjginelaaProg
import Derived.Test.YtmjepdhjginelaaKInvWordsMore
import Derived.Test.YtmjepdhjginelaaMaxPlain
namespace Go.Proofs.Ytmjepdhjginelaa.St
open Go.Proofs Go.Shelf Go.RowKit Go.Proofs.YtmjepdhjginelaaW.PrintWords Go.Proofs.YtmjepdhjginelaaW.PrintLast Go.Proofs.YtmjepdhjginelaaW.PrintMore
attribute [local go_sem] max2_int min2_int max_two min_two

set_option maxHeartbeats 1000000 in
set_option maxRecDepth 1000000 in
theorem max_calls (A0 : Option Addr) (c0 : Nat) (l0 : List Int) (w : World) (hr0 : Kd.C (Kd.int .i64) w A0 l0.length l0) (hn : l0.length ≤ 17592186044416) (hne : 0 < l0.length) :
    Calls Try.prog 46 #[.slice A0 l0.length c0] w fun e w' => e = .returned (.int .i64 (maxL l0)) ∧ Drawn0 w w' := by
  have mixed : Try.prog.follows .mixedOrders = true := by kernel_rfl
  have R : Aside (∀ i : Nat, i < l0.length → ∃ ad, A0 = some ad ∧ w.cell? (ad.add i) = some (.int .i64 (l0.getD i 0))) := by
    intro i hi
    obtain ⟨ad, c, e, _, hK, hc0⟩ := Kd.C_get hr0 0 (i : Int) (by omega) (by omega)
    have hK' : c = [.int .i64 (l0.getD i 0)] := by rw [Int.toNat_natCast] at hK; exact hK
    subst hK'
    have h := hc0 0 _ rfl
    rw [Int.toNat_natCast] at h
    exact ⟨ad, e, by rw [show i * (Kd.int .i64).sz + 0 = i by show i * 1 + 0 = i; omega] at h; exact h⟩
  clear hr0
  have hn1 : ¬ (l0.length : Int) < 1 := by omega
  have hn2 : (0 : Int) < (l0.length : Int) := by omega
  obtain ⟨ad, rfl, hc⟩ := R.out 0 hne
  have hc0 : w.cell? ad = some (.int .i64 (l0.getD 0 0)) := by rw [← hc]; cases ad; simp [Addr.add]
  obtain ⟨x0, hx0⟩ : ∃ x, x = l0.getD 0 0 := ⟨_, rfl⟩
  rw [← hx0] at hc0
  have HS : Hid (maxFrom x0 (l0.drop 1) = maxL l0) := by show _ = _; rw [hx0]; rfl
  clear hc hx0
  go_enter Try.func46, Try.ntmps46
  go_wp2
  go_loopg [3, 4] l0.length (fun kx s3 s4 wr => ∃ (i : Nat) (m : Int), s3 = .int .i64 m ∧ s4 = .int .i64 i ∧ i ≤ l0.length ∧ l0.length - i ≤ kx ∧ Aside (∃ q, wr = w.drewN q) ∧ Hid (maxFrom m (l0.drop i) = maxL l0))
  case atStart => exact ⟨1, x0, rfl, rfl, by omega, by omega, ⟨0, rfl⟩, HS⟩
  case round =>
    clear HS hc0
    obtain ⟨i, m, rfl, rfl, hi, hkx, HW, HE⟩ := hrel
    obtain ⟨q, rfl⟩ := HW.out
    clear HW
    by_cases hlt : i < l0.length
    · have hltz : (i : Int) < (l0.length : Int) := by omega
      obtain ⟨ad', e, hc⟩ := R.out i hlt
      injection e with e
      subst e
      have HE0 := HE.out
      have hd : l0.drop i = l0.getD i 0 :: l0.drop (i + 1) := by
        rw [List.drop_eq_getElem_cons hlt, List.getD_eq_getElem?_getD, List.getElem?_eq_getElem hlt]; rfl
      rw [hd] at HE0
      clear HE hd
      obtain ⟨x, hx⟩ : ∃ x, x = l0.getD i 0 := ⟨_, rfl⟩
      rw [← hx] at HE0 hc
      clear hx
      obtain ⟨m', hm⟩ : ∃ m', (if m < x then x else m) = m' := ⟨_, rfl⟩
      have HE2 : Hid (maxFrom m' (l0.drop (i + 1)) = maxL l0) := by show _ = _; rw [← hm]; exact HE0
      clear HE0
      go_wp2
      go_roundg (l0.length - (i + 1))
      case measure => omega
      case rel => exact ⟨i + 1, m', by first | rfl | go_num, by go_num, by omega, Nat.le_refl _, ⟨_, rfl⟩, HE2⟩
    · have hltz : ¬ (i : Int) < (l0.length : Int) := by omega
      have HE2 : Hid (maxL l0 = m) := by
        have h := HE.out
        rw [List.drop_eq_nil_of_le (by omega)] at h
        exact h.symm
      clear HE
      go_wp2
      go_ret
      rw [HE2.out]
      exact ⟨rfl, ⟨_, rfl⟩⟩
end Go.Proofs.Ytmjepdhjginelaa.St
