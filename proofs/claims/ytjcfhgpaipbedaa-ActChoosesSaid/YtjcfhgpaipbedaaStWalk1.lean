/- slices.swapRangeCmpFunc and slices.rotateCmpFunc at []int: what they make of a row, from a world of the sort's to a world of the sort's. -/
import Derived.Shelf.SlSortCmp.Kit1
import Derived.Deep.LoopGhost
import Derived.WalkKit
import Derived.BigRegion
import Derived.Test.YtjcfhgpaipbedaaProg
import Derived.Test.YtjcfhgpaipbedaaStPlain
namespace Go.Proofs.Ytjcfhgpaipbedaa.St
open Go.Proofs Go.Shelf Go.RowKit Go.Lib Go.Sort
variable {α : Type} [Inhabited α]

set_option maxHeartbeats 4000000 in
set_option maxRecDepth 1000000 in
theorem swapRange_calls (enc : α → Value) (g : Nat) (cb : Array Value) (blk off cap a b n : Nat) (d0 d : Array α) (w0 w : World)
    (R : Row1 enc w0 blk off d0) (hs : d.size = d0.size) (S : SW enc w0 blk off d w) (hab : a + n ≤ b) (hb : b + n ≤ d0.size) (hsz : d0.size < 4611686018427387904) :
    Calls Try.prog 67 #[.slice (some ⟨blk, off, none⟩) d0.size cap, .int .i64 a, .int .i64 b, .int .i64 n, .func (.func g) #[] cb] w fun e w' => e = .returned (.tuple #[]) ∧ SW enc w0 blk off (swapFrom a b n 0 d) w' := by
  have hcl0 := R.hO.cells
  simp only [Value.cells] at hcl0
  have hst := R.hO.store Try.prog
  have mixed : Try.prog.follows .mixedOrders = true := by kernel_rfl
  have S0 : Aside (SW enc w0 blk off d w) := S
  clear S
  go_enter Try.func67, Try.ntmps67
  go_wp2
  go_loopg [10] n (fun kx s10 wr => ∃ (i : Nat) (dk : Array α), s10 = .int .i64 i ∧ i ≤ n ∧ n - i ≤ kx ∧ dk.size = d0.size ∧ Aside (SW enc w0 blk off dk wr) ∧ Hid (swapFrom a b n i dk = swapFrom a b n 0 d))
  case atStart => exact ⟨0, d, rfl, by omega, by omega, hs, S0, rfl⟩
  case round =>
    clear S0
    obtain ⟨i, dk, rfl, hin, hkx, hds, S1, HE⟩ := hrel
    by_cases hlt : i < n
    · have hltz : (i : Int) < (n : Int) := by omega
      have HE2 : Hid (swapFrom a b n (i + 1) (swp dk (a + i) (b + i)) = swapFrom a b n 0 d) := by
        have e := HE.out
        rw [swapFrom, if_pos hlt] at e
        exact e
      go_wp2_with fail
      obtain ⟨iN, hiN⟩ : ∃ q, q = a + i := ⟨_, rfl⟩
      obtain ⟨jN, hjN⟩ : ∃ q, q = b + i := ⟨_, rfl⟩
      have ea : ((a : Int) + (i : Int)).toNat = iN := by omega
      have pa : (0 : Int) ≤ (a : Int) + (i : Int) := by omega
      have ba : (a : Int) + (i : Int) < (d0.size : Int) := by omega
      have ra : IntKind.i64.wrap ((a : Int) + (i : Int)) = (a : Int) + (i : Int) := by rw [IntKind.wrap_i64]; omega
      have ec : ((b : Int) + (i : Int)).toNat = jN := by omega
      have pc : (0 : Int) ≤ (b : Int) + (i : Int) := by omega
      have bc : (b : Int) + (i : Int) < (d0.size : Int) := by omega
      have rc : IntKind.i64.wrap ((b : Int) + (i : Int)) = (b : Int) + (i : Int) := by rw [IntKind.wrap_i64]; omega
      obtain ⟨x, hx⟩ : ∃ x, x = dk[a + i]! := ⟨_, rfl⟩
      obtain ⟨y, hy⟩ : ∃ x, x = dk[b + i]! := ⟨_, rfl⟩
      have S2 : Aside (SW enc w0 blk off (swp dk (a + i) (b + i)) ((wr.setCell ⟨blk, off + iN, none⟩ (enc y)).setCell ⟨blk, off + jN, none⟩ (enc x)).drew) := by rw [hiN, hjN, hx, hy]; exact S1.out.swapped R (a + i) (b + i) (by omega) (by omega)
      have c1 := S1.out.c1 R (by omega) (a + i) (by omega)
      have c2 := S1.out.c1 R (by omega) (b + i) (by omega)
      have f1 := S1.out.f1 R (by omega) (a + i) (by omega)
      have f2 := S1.out.f1 R (by omega) (b + i) (by omega)
      obtain ⟨u, c3⟩ := S1.out.c2 R (by omega) (a + i) (b + i) (by omega) (by omega) (enc y)
      rw [← hjN, ← hiN] at c3
      rw [← hx, ← hiN] at c1
      rw [← hy, ← hjN] at c2
      rw [← hiN] at f1
      rw [← hjN] at f2
      clear S1 hx hy hiN hjN
      go_wp2_with fail
      go_big_region_o
      clear c1 c2 c3 f1 f2
      generalize ((wr.setCell ⟨blk, off + iN, none⟩ (enc y)).setCell ⟨blk, off + jN, none⟩ (enc x)).drew = w2 at S2 ⊢
      clear ea ec
      go_wp2
      go_roundg (n - (i + 1))
      case measure => omega
      case rel => exact ⟨i + 1, swp dk (a + i) (b + i), by go_num, by omega, Nat.le_refl _, by rw [size_swp]; exact hds, S2, HE2⟩
    · have hltz : ¬ (i : Int) < (n : Int) := by omega
      go_wp2
      go_end0
      refine ⟨rfl, ?_⟩
      rw [← HE.out, swapFrom, if_neg hlt]
      exact S1.out
set_option maxHeartbeats 1000000 in
set_option maxRecDepth 1000000 in
theorem rotate_calls (enc : α → Value) (g : Nat) (cb : Array Value) (blk off cap a m b : Nat) (d0 d : Array α) (w0 w : World)
    (R : Row1 enc w0 blk off d0) (hs : d.size = d0.size) (S : SW enc w0 blk off d w) (ham : a < m) (hmb : m < b) (hb : b ≤ d0.size) (hsz : d0.size < 4611686018427387904) :
    Calls Try.prog 66 #[.slice (some ⟨blk, off, none⟩) d0.size cap, .int .i64 a, .int .i64 m, .int .i64 b, .func (.func g) #[] cb] w fun e w' => e = .returned (.tuple #[]) ∧ SW enc w0 blk off (rot m (m - a) (b - m) d) w' := by
  have S0 : Aside (SW enc w0 blk off d w) := S
  clear S
  go_enter Try.func66, Try.ntmps66
  go_wp2
  go_loopg [10, 11] (b - a) (fun kx s10 s11 wr => ∃ (i j : Nat) (dk : Array α), s10 = .int .i64 i ∧ s11 = .int .i64 j ∧ 0 < i ∧ 0 < j ∧ i ≤ m ∧ m + j ≤ d0.size ∧ i + j ≤ kx ∧ dk.size = d0.size ∧ Aside (SW enc w0 blk off dk wr) ∧ Hid (rot m i j dk = rot m (m - a) (b - m) d))
  case atStart => exact ⟨m - a, b - m, d, by rw [show ((m - a : Nat) : Int) = (m : Int) - (a : Int) by omega], by rw [show ((b - m : Nat) : Int) = (b : Int) - (m : Int) by omega], by omega, by omega, by omega, by omega, by omega, hs, S0, rfl⟩
  case round =>
    clear S0
    obtain ⟨i, j, dk, rfl, rfl, hi, hj, him, hmj, hkx, hds, S1, HE⟩ := hrel
    obtain ⟨p, hp⟩ : ∃ p, p + i = m := ⟨m - i, by omega⟩
    have em : (m : Int) - (i : Int) = (p : Int) := by omega
    by_cases e : i = j
    · subst e
      have hne : ((i : Int) != (i : Int)) = false := by rw [bne_eq_false_iff_eq]
      have HE2 : Hid (swapFrom p m i 0 dk = rot m (m - a) (b - m) d) := by
        have e1 := HE.out
        rw [rot, dif_neg (by omega), dif_pos rfl, show m - i = p by omega] at e1
        exact e1
      clear HE hp
      go_wp2_with fail
      ((with_reducible refine (swapRange_calls enc g cb blk off cap p m i d0 dk w0 _ R hds S1.out (by omega) (by omega) hsz).mono ?_))
      rintro e' w2 ⟨rfl, S2⟩
      have S3 : Aside _ := S2
      clear S2 S1
      go_wp2
      go_end0
      refine ⟨rfl, ?_⟩
      rw [← HE2.out]
      exact S3.out
    · have hne : ((i : Int) != (j : Int)) = true := by rw [bne_iff_ne]; omega
      by_cases c : j < i
      · have hlt : (j : Int) < (i : Int) := by omega
        have HE2 : Hid (rot m (i - j) j (swapFrom p m j 0 dk) = rot m (m - a) (b - m) d) := by
          have e1 := HE.out
          rw [rot, dif_neg (by omega), dif_neg e, dif_pos c, show m - i = p by omega] at e1
          exact e1
        have h1 := (swapRange_spec p m j dk (by omega) (by omega)).1
        have H1 : Hid ((swapFrom p m j 0 dk).size = d0.size) := by show _ = _; rw [h1, hds]
        clear h1
        have HP : Hid (p + i = m) := hp
        have hpi : p + i ≤ m := by omega
        have hpi2 : m ≤ p + i := by omega
        clear HE hp
        go_wp2_with fail
        ((with_reducible refine (swapRange_calls enc g cb blk off cap p m j d0 dk w0 _ R hds S1.out (by omega) (by omega) hsz).mono ?_))
        rintro e' w2 ⟨rfl, S2⟩
        have S3 : Aside _ := S2
        clear S2 S1
        go_wp2
        go_roundg (i - j + j)
        case measure => omega
        case rel => exact ⟨i - j, j, _, by rw [show ((i - j : Nat) : Int) = (i : Int) - (j : Int) by omega], rfl, by omega, hj, by omega, hmj, Nat.le_refl _, H1.out, S3, HE2⟩
      · have hlt : ¬ (j : Int) < (i : Int) := by omega
        obtain ⟨q, hq⟩ : ∃ q, q + i = m + j := ⟨m + j - i, by omega⟩
        have em2 : (m : Int) + (j : Int) - (i : Int) = (q : Int) := by omega
        have HE2 : Hid (rot m i (j - i) (swapFrom p q i 0 dk) = rot m (m - a) (b - m) d) := by
          have e1 := HE.out
          rw [rot, dif_neg (by omega), dif_neg e, dif_neg c, show m - i = p by omega, show m + j - i = q by omega] at e1
          exact e1
        have h1 := (swapRange_spec p q i dk (by omega) (by omega)).1
        have H1 : Hid ((swapFrom p q i 0 dk).size = d0.size) := by show _ = _; rw [h1, hds]
        clear h1
        have hpi : p + i ≤ m := by omega
        have hpi2 : m ≤ p + i := by omega
        have hqi : q + i ≤ m + j := by omega
        have hqi2 : m + j ≤ q + i := by omega
        clear HE hp hq
        go_wp2_with fail
        ((with_reducible refine (swapRange_calls enc g cb blk off cap p q i d0 dk w0 _ R hds S1.out (by omega) (by omega) hsz).mono ?_))
        rintro e' w2 ⟨rfl, S2⟩
        have S3 : Aside _ := S2
        clear S2 S1
        go_wp2
        go_roundg (i + (j - i))
        case measure => omega
        case rel => exact ⟨i, j - i, _, rfl, by rw [show ((j - i : Nat) : Int) = (j : Int) - (i : Int) by omega], hi, by omega, him, by omega, Nat.le_refl _, H1.out, S3, HE2⟩
end Go.Proofs.Ytjcfhgpaipbedaa.St
