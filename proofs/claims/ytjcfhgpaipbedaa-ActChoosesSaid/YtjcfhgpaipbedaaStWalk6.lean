/- slices.stableCmpFunc and slices.SortStableFunc at []int. -/
import Derived.Test.YtjcfhgpaipbedaaStWalk5
import Derived.Test.YtjcfhgpaipbedaaStIns
namespace Go.Proofs.Ytjcfhgpaipbedaa.St
open Go.Proofs Go.Shelf Go.RowKit Go.Lib Go.Sort
variable {α : Type} [Inhabited α]

theorem size_blocks (lt : α → α → Bool) (s n : Nat) : ∀ (q a : Nat) (d : Array α), n - a = q → (blocks lt s n a d).size = d.size := by
  intro q
  induction q using Nat.strongRecOn with
  | _ q ih =>
    intro a d h
    rw [blocks]
    split
    · rw [ih (n - (a + s)) (by omega) _ _ rfl, size_insertionSort]
    · rw [size_insertionSort]

set_option maxHeartbeats 4000000 in
set_option maxRecDepth 1000000 in
theorem stable_calls (enc : α → Value) (cf : α → α → Int) (g : Nat) (cb : Array Value) (blk off cap : Nat) (d0 d : Array α) (w0 w : World)
    (eg : ∀ args w, (callFunc g args).run Try.prog w = .ok (.enter g args) w) (hcmp : CmpLays1 Try.prog g cb enc cf blk off d0.size w0)
    (R : Row1 enc w0 blk off d0) (hs : d.size = d0.size) (S : SW enc w0 blk off d w) (hsz : d0.size < 2305843009213693952) :
    Calls Try.prog 58 #[.slice (some ⟨blk, off, none⟩) d0.size cap, .int .i64 d0.size, .func (.func g) #[] cb] w fun e w' => e = .returned (.tuple #[]) ∧ SW enc w0 blk off (stable (ltOf cf) d) w' := by
  have hsz2 : d0.size < 4611686018427387904 := by omega
  have HC : Aside (CmpLays1 Try.prog g cb enc cf blk off d0.size w0) := hcmp
  have S0 : Aside (SW enc w0 blk off d w) := S
  obtain ⟨n, hn⟩ : ∃ n, n = d0.size := ⟨_, rfl⟩
  have hstab : Hid (passes (ltOf cf) 20 n (blocks (ltOf cf) 20 n 0 d) = stable (ltOf cf) d) := by show _ = _; unfold stable; rw [hn, hs]
  have HN : Hid (n = d0.size) := hn
  have hn1 : n ≤ d0.size := by omega
  have hn2 : d0.size ≤ n := by omega
  clear S hcmp
  clear hn
  go_enter Try.func58, Try.ntmps58
  go_wp2
  go_loopg [7, 8] n (fun kx s7 s8 wr => ∃ (a b : Nat) (dk : Array α), s7 = .int .i64 a ∧ s8 = .int .i64 b ∧ a ≤ n ∧ b ≤ a + 20 ∧ a + 20 ≤ b ∧ n - a ≤ kx ∧ Hid (dk.size = d0.size) ∧ Aside (SW enc w0 blk off dk wr) ∧ Hid (blocks (ltOf cf) 20 n a dk = blocks (ltOf cf) 20 n 0 d))
  case atStart => exact ⟨0, 20, d, rfl, rfl, by omega, by omega, by omega, by omega, hs, S0, rfl⟩
  case round =>
    clear S0
    obtain ⟨a, b, dk, rfl, rfl, han, hab1, hab2, hkx, hds, S1, HE⟩ := hrel
    by_cases hlt : b ≤ n
    · have hltz : (b : Int) ≤ (d0.size : Int) := by omega
      have HE2 : Hid (blocks (ltOf cf) 20 n b (insertionSort (ltOf cf) dk a b) = blocks (ltOf cf) 20 n 0 d) := by
        have e := HE.out
        rw [blocks, dif_pos ⟨by omega, by omega⟩, show a + 20 = b by omega] at e
        exact e
      clear HE
      go_wp2_with fail
      ((with_reducible refine (insertion_calls enc cf g cb blk off cap a b d0 dk w0 _ eg HC.out R hds.out S1.out (by omega) (by omega) hsz2).mono ?_))
      rintro e' w2 ⟨rfl, T2⟩
      have S2 : Aside (SW enc w0 blk off (insertionSort (ltOf cf) dk a b) w2) := T2
      clear T2 S1
      go_wp2
      go_roundg (n - b)
      case measure => omega
      case rel => exact ⟨b, b + 20, insertionSort (ltOf cf) dk a b, rfl, by go_num, by omega, by omega, by omega, Nat.le_refl _, by show _ = _; rw [size_insertionSort]; exact hds.out, S2, HE2⟩
    · have hltz : ¬ (b : Int) ≤ (d0.size : Int) := by omega
      have HE2 : Hid (insertionSort (ltOf cf) dk a d0.size = blocks (ltOf cf) 20 n 0 d) := by
        have e := HE.out
        rw [blocks, dif_neg (by omega)] at e
        rw [← HN.out]
        exact e
      clear HE
      go_wp2_with fail
      ((with_reducible refine (insertion_calls enc cf g cb blk off cap a d0.size d0 dk w0 _ eg HC.out R hds.out S1.out (by omega) (Nat.le_refl _) hsz2).mono ?_))
      rintro e' w2 ⟨rfl, T2⟩
      have S2 : Aside (SW enc w0 blk off (insertionSort (ltOf cf) dk a d0.size) w2) := T2
      have hd2 : Hid ((insertionSort (ltOf cf) dk a d0.size).size = d0.size) := by show _ = _; rw [size_insertionSort]; exact hds.out
      have HE3 : Hid (passes (ltOf cf) 20 n (insertionSort (ltOf cf) dk a d0.size) = stable (ltOf cf) d) := by show _ = _; rw [HE2.out]; exact hstab.out
      clear T2 S1 HE2 hstab hds
      generalize insertionSort (ltOf cf) dk a d0.size = d2 at S2 hd2 HE3
      go_wp2
      go_loopg [6, 7, 8, 9] n (fun kx s6 s7 s8 s9 wr => ∃ (s : Nat) (dk : Array α), s6 = .int .i64 s ∧ 0 < s ∧ n - s ≤ kx ∧ Hid (dk.size = d0.size) ∧ Aside (SW enc w0 blk off dk wr) ∧ Hid (passes (ltOf cf) s n dk = stable (ltOf cf) d))
      case atStart => exact ⟨20, d2, rfl, by omega, by omega, hd2, S2, HE3⟩
      case round =>
        clear S2 hd2 HE3
        obtain ⟨s, d3, rfl, hs0, hkx2, hd3, S3, HF⟩ := hrel
        by_cases hlt2 : s < n
        · have hltz2 : (s : Int) < (d0.size : Int) := by omega
          have HF2 : Hid (passes (ltOf cf) (2 * s) n (pass (ltOf cf) s n 0 d3) = stable (ltOf cf) d) := by
            have e := HF.out
            rw [passes, dif_pos ⟨by omega, by omega⟩] at e
            exact e
          clear HF
          go_wp2
          go_loopg [7, 8] n (fun kx s7 s8 wr => ∃ (a b : Nat) (dk : Array α), s7 = .int .i64 a ∧ s8 = .int .i64 b ∧ a ≤ n ∧ b ≤ a + 2 * s ∧ a + 2 * s ≤ b ∧ n - a ≤ kx ∧ Hid (dk.size = d0.size) ∧ Aside (SW enc w0 blk off dk wr) ∧ Hid (pass (ltOf cf) s n a dk = pass (ltOf cf) s n 0 d3))
          case atStart => exact ⟨0, 2 * s, d3, rfl, by go_num, by omega, by omega, by omega, by omega, hd3, S3, rfl⟩
          case round =>
            clear S3
            obtain ⟨a, b, d4, rfl, rfl, han, hab1, hab2, hkx3, hd4, S4, HG⟩ := hrel
            by_cases hlt3 : b ≤ n
            · have hltz3 : (b : Int) ≤ (d0.size : Int) := by omega
              obtain ⟨t, ht⟩ : ∃ t, t = a + s := ⟨_, rfl⟩
              have eas : (a : Int) + (s : Int) = (t : Int) := by omega
              have ht1 : t ≤ a + s := by omega
              have ht2 : a + s ≤ t := by omega
              have HG2 : Hid (pass (ltOf cf) s n b (symMerge (ltOf cf) n d4 a t b) = pass (ltOf cf) s n 0 d3) := by
                have e := HG.out
                rw [pass, dif_pos ⟨by omega, by omega⟩, show a + 2 * s = b by omega, ← ht] at e
                exact e
              clear HG ht
              go_wp2_with fail
              ((with_reducible refine (symMerge_calls enc cf g cb blk off cap d0 w0 eg HC.out R hsz2 n a t b d4 _ (by omega) (by omega) (by omega) (by omega) hd4.out S4.out).mono ?_))
              rintro e' w5 ⟨rfl, T5⟩
              have S5 : Aside (SW enc w0 blk off (symMerge (ltOf cf) n d4 a t b) w5) := T5
              clear T5 S4
              go_wp2
              go_roundg (n - b)
              case measure => omega
              case rel => exact ⟨b, b + 2 * s, symMerge (ltOf cf) n d4 a t b, rfl, by go_num, by omega, by omega, by omega, Nat.le_refl _, by show _ = _; rw [size_symMerge]; exact hd4.out, S5, HG2⟩
            · have hltz3 : ¬ (b : Int) ≤ (d0.size : Int) := by omega
              obtain ⟨t, ht⟩ : ∃ t, t = a + s := ⟨_, rfl⟩
              have eas : (a : Int) + (s : Int) = (t : Int) := by omega
              have ht1 : t ≤ a + s := by omega
              have ht2 : a + s ≤ t := by omega
              by_cases hm : t < n
              · have hmz : (t : Int) < (d0.size : Int) := by omega
                have HG2 : Hid (symMerge (ltOf cf) n d4 a t d0.size = pass (ltOf cf) s n 0 d3) := by
                  have e := HG.out
                  rw [pass, dif_neg (by omega), if_pos (by rw [← ht]; exact hm), ← ht] at e
                  rw [← HN.out]
                  exact e
                clear HG ht
                go_wp2_with fail
                ((with_reducible refine (symMerge_calls enc cf g cb blk off cap d0 w0 eg HC.out R hsz2 n a t d0.size d4 _ (by omega) (by omega) (by omega) (Nat.le_refl _) hd4.out S4.out).mono ?_))
                rintro e' w5 ⟨rfl, T5⟩
                have S5 : Aside (SW enc w0 blk off (symMerge (ltOf cf) n d4 a t d0.size) w5) := T5
                clear T5 S4
                go_wp2
                go_roundg (n - 2 * s)
                case measure => omega
                case rel => exact ⟨2 * s, symMerge (ltOf cf) n d4 a t d0.size, by go_num, by omega, Nat.le_refl _, by show _ = _; rw [size_symMerge]; exact hd4.out, S5, by show _ = _; rw [HG2.out]; exact HF2.out⟩
              · have hmz : ¬ (t : Int) < (d0.size : Int) := by omega
                have HG2 : Hid (d4 = pass (ltOf cf) s n 0 d3) := by
                  have e := HG.out
                  rw [pass, dif_neg (by omega), if_neg (by rw [← ht]; exact hm)] at e
                  exact e
                clear HG ht
                go_wp2
                go_roundg (n - 2 * s)
                case measure => omega
                case rel => exact ⟨2 * s, d4, by go_num, by omega, Nat.le_refl _, hd4.out, S4, by show _ = _; rw [HG2.out]; exact HF2.out⟩
        · have hltz2 : ¬ (s : Int) < (d0.size : Int) := by omega
          go_wp2
          go_end0
          refine ⟨rfl, ?_⟩
          have e := HF.out
          rw [passes, dif_neg (by omega)] at e
          rw [← e]
          exact S3.out

set_option maxHeartbeats 400000 in
theorem sortStable_calls (enc : α → Value) (cf : α → α → Int) (g : Nat) (cb : Array Value) (blk off cap : Nat) (d : Array α) (w : World)
    (eg : ∀ args w, (callFunc g args).run Try.prog w = .ok (.enter g args) w) (hcmp : CmpLays1 Try.prog g cb enc cf blk off d.size w)
    (R : Row1 enc w blk off d) (hsz : d.size < 2305843009213693952) :
    Calls Try.prog 36 #[.slice (some ⟨blk, off, none⟩) d.size cap, .func (.func g) #[] cb] w fun e w' => e = .returned (.tuple #[]) ∧ SW enc w blk off (stable (ltOf cf) d) w' := by
  go_enter Try.func36, Try.ntmps36
  go_wp2_with fail
  ((with_reducible refine (stable_calls enc cf g cb blk off cap d d w w eg hcmp R rfl (SW.start R.hH) hsz).mono ?_))
  rintro e' w5 ⟨rfl, T5⟩
  go_wp2
  go_end0
  exact ⟨rfl, T5⟩
end Go.Proofs.Ytjcfhgpaipbedaa.St
