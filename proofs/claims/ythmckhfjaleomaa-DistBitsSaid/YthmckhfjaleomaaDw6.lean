/- dist: surprises. -/
import Derived.Test.YthmckhfjaleomaaMWts
import Derived.Test.YthmckhfjaleomaaT29
import Derived.Test.YthmckhfjaleomaaT30
namespace Go.Proofs.Ythmckhfjaleomaa.Pure
set_option linter.unusedSimpArgs false
set_option linter.unusedVariables false
open Go.RowKit Go.Proofs.YthmckhfjaleomaaW.PrintWords Go.Proofs.YthmckhfjaleomaaW.PrintLast Go.Proofs.YthmckhfjaleomaaW.PrintMore Go.Proofs.Ythmckhfjaleomaa.T Go.Proofs.Ythmckhfjaleomaa.St

/-! ### logarithms in plain Lean -/
def frac : Nat → Int → Int
  | 0, _ => 0
  | r + 1, y => if y * y / 1073741824 ≥ 2147483648 then 2 ^ r + frac r (y * y / 1073741824 / 2) else frac r (y * y / 1073741824)
def normL (x n : Nat) : Int := if n > 30 then (x : Int) / 2 ^ (n - 30) else (x : Int) * 2 ^ (30 - n)
/-- the binary logarithm, of 65536. -/
def logL (x : Int) : Int := 65536 * (Nat.log2 x.toNat : Int) + frac 16 (normL x.toNat (Nat.log2 x.toNat))
theorem sq_range {y : Int} (h : 1073741824 ≤ y ∧ y < 2147483648) : 1152921504606846976 ≤ y * y ∧ y * y < 4611686018427387904 ∧ 1073741824 ≤ y * y / 1073741824 ∧ y * y / 1073741824 < 4294967296 := by
  have h1 : 1073741824 * 1073741824 ≤ y * y := Int.mul_le_mul h.1 h.1 (by omega) (by omega)
  have h2 : y * y ≤ 2147483647 * 2147483647 := Int.mul_le_mul (by omega) (by omega) (by omega) (by omega)
  omega
theorem frac_range : ∀ (r : Nat) (y : Int), 0 ≤ frac r y ∧ frac r y < 2 ^ r
  | 0, y => ⟨Int.le_refl _, by show (0 : Int) < 2 ^ 0; decide⟩
  | r + 1, y => by
    have e : (2 : Int) ^ (r + 1) = 2 ^ r + 2 ^ r := by rw [Int.pow_succ]; omega
    rw [frac, e]
    split
    · have := frac_range r (y * y / 1073741824 / 2); omega
    · have := frac_range r (y * y / 1073741824); omega
theorem frac_mono : ∀ (r : Nat) (y z : Int), 1073741824 ≤ y → y ≤ z → z < 2147483648 → frac r y ≤ frac r z
  | 0, y, z, h0, h1, h2 => Int.le_refl _
  | r + 1, y, z, h0, h1, h2 => by
    have hq : y * y ≤ z * z := Int.mul_le_mul h1 h1 (by omega) (by omega)
    have hd : y * y / 1073741824 ≤ z * z / 1073741824 := Int.ediv_le_ediv (by omega) hq
    have a := sq_range (y := y) ⟨h0, by omega⟩
    have b := sq_range (y := z) ⟨by omega, h2⟩
    have f1 := frac_range r (y * y / 1073741824)
    have f2 := frac_range r (z * z / 1073741824 / 2)
    rw [frac, frac]
    split
    · rw [if_pos (by omega)]
      have := frac_mono r (y * y / 1073741824 / 2) (z * z / 1073741824 / 2) (by omega) (by omega) (by omega)
      omega
    · split
      · omega
      · exact frac_mono r _ _ (by omega) hd (by omega)
theorem frac_one : ∀ r : Nat, frac r 1073741824 = 0
  | 0 => rfl
  | r + 1 => by
    rw [frac, show (1073741824 : Int) * 1073741824 / 1073741824 = 1073741824 by decide, if_neg (by omega)]
    exact frac_one r
theorem log2_b {x : Nat} (h : x ≠ 0) : 2 ^ x.log2 ≤ x ∧ x < 2 ^ (x.log2 + 1) := ⟨Nat.log2_self_le h, Nat.lt_log2_self⟩
theorem norm_range {x : Nat} (h : x ≠ 0) : 1073741824 ≤ normL x x.log2 ∧ normL x x.log2 < 2147483648 := by
  obtain ⟨h1, h2⟩ := log2_b h
  generalize x.log2 = n at *
  unfold normL
  split
  · rename_i c
    obtain ⟨m, rfl⟩ : ∃ m, n = m + 30 := ⟨n - 30, by omega⟩
    rw [show m + 30 - 30 = m by omega]
    have hp : (0 : Int) < 2 ^ m := Int.pow_pos (by omega)
    have e1 : (2 : Nat) ^ (m + 30) = 1073741824 * 2 ^ m := by rw [Nat.pow_add, Nat.mul_comm]
    have e2 : (2 : Nat) ^ (m + 30 + 1) = 2147483648 * 2 ^ m := by rw [show m + 30 + 1 = m + 31 by omega, Nat.pow_add, Nat.mul_comm]
    rw [e1] at h1
    rw [e2] at h2
    have h1' : (1073741824 : Int) * 2 ^ m ≤ (x : Int) := by have := Int.ofNat_le.2 h1; rw [Int.natCast_mul, Int.natCast_pow] at this; exact this
    have h2' : (x : Int) < 2147483648 * 2 ^ m := by have := Int.ofNat_lt.2 h2; rw [Int.natCast_mul, Int.natCast_pow] at this; exact this
    exact ⟨Int.le_ediv_of_mul_le hp h1', Int.ediv_lt_of_lt_mul hp h2'⟩
  · rename_i c
    obtain ⟨m, hm⟩ : ∃ m, n + m = 30 := ⟨30 - n, by omega⟩
    rw [show 30 - n = m by omega]
    have hp : 0 < 2 ^ m := Nat.pow_pos (by omega)
    have e1 : 2 ^ n * 2 ^ m = 1073741824 := by rw [← Nat.pow_add, hm]
    have e2 : 2 ^ (n + 1) * 2 ^ m = 2147483648 := by rw [← Nat.pow_add, show n + 1 + m = 31 by omega]
    have g1 : 2 ^ n * 2 ^ m ≤ x * 2 ^ m := Nat.mul_le_mul_right _ h1
    have g2 : x * 2 ^ m < 2 ^ (n + 1) * 2 ^ m := Nat.mul_lt_mul_of_pos_right h2 hp
    rw [e1] at g1
    rw [e2] at g2
    exact ⟨by have := Int.ofNat_le.2 g1; rw [Int.natCast_mul, Int.natCast_pow] at this; exact this, by have := Int.ofNat_lt.2 g2; rw [Int.natCast_mul, Int.natCast_pow] at this; exact this⟩
theorem log_nonneg (x : Int) : 0 ≤ logL x := by
  unfold logL
  have := (frac_range 16 (normL x.toNat x.toNat.log2)).1
  omega
theorem norm_mono (x y n : Nat) (h : x ≤ y) : normL x n ≤ normL y n := by
  unfold normL
  split
  · exact Int.ediv_le_ediv (Int.pow_pos (by omega)) (by omega)
  · exact Int.mul_le_mul_of_nonneg_right (by omega) (Int.le_of_lt (Int.pow_pos (by omega)))
theorem log_mono {x y : Int} (h0 : 1 ≤ x) (h : x ≤ y) : logL x ≤ logL y := by
  unfold logL
  obtain ⟨a, rfl⟩ : ∃ a : Nat, x = a := ⟨x.toNat, by omega⟩
  obtain ⟨b, rfl⟩ : ∃ b : Nat, y = b := ⟨y.toNat, by omega⟩
  rw [Int.toNat_natCast, Int.toNat_natCast]
  have ha := log2_b (x := a) (by omega)
  have hb := log2_b (x := b) (by omega)
  have na := norm_range (x := a) (by omega)
  have nb := norm_range (x := b) (by omega)
  have hle : a.log2 ≤ b.log2 := (Nat.le_log2 (by omega)).2 (by omega)
  by_cases e : a.log2 = b.log2
  · rw [e] at na ⊢
    have := frac_mono 16 (normL a b.log2) (normL b b.log2) na.1 (norm_mono a b _ (by omega)) nb.2
    omega
  · have f1 := frac_range 16 (normL a a.log2)
    have f2 := frac_range 16 (normL b b.log2)
    have : (2 : Int) ^ 16 = 65536 := by decide
    omega
theorem log2_pow (b : Nat) : Nat.log2 (2 ^ b) = b := by
  have hne : 2 ^ b ≠ 0 := Nat.ne_of_gt (Nat.pow_pos (by omega))
  have h1 : b ≤ Nat.log2 (2 ^ b) := (Nat.le_log2 hne).2 (Nat.le_refl _)
  have h2 : Nat.log2 (2 ^ b) < b + 1 := (Nat.log2_lt hne).2 (Nat.pow_lt_pow_succ (by omega))
  omega
theorem log_pow (b : Nat) (hb : b ≤ 32) : logL ((2 ^ b : Nat) : Int) = 65536 * (b : Int) := by
  unfold logL
  rw [Int.toNat_natCast, log2_pow]
  have : normL (2 ^ b) b = 1073741824 := by
    have : ∀ b : Fin 33, normL (2 ^ b.val) b.val = 1073741824 := by decide +kernel
    exact this ⟨b, by omega⟩
  rw [this, frac_one]
  omega
theorem log_lt (x : Int) (b : Nat) (h0 : 1 ≤ x) (h : x < ((2 ^ b : Nat) : Int)) : logL x < 65536 * (b : Int) := by
  unfold logL
  obtain ⟨a, rfl⟩ : ∃ a : Nat, x = a := ⟨x.toNat, by omega⟩
  rw [Int.toNat_natCast]
  have hl : a.log2 < b := (Nat.log2_lt (by omega)).2 (by omega)
  have f1 := frac_range 16 (normL a a.log2)
  have : (2 : Int) ^ 16 = 65536 := by decide
  omega

/-! ### the program's and the reference's -/
theorem bitLen_log2 : ∀ (x : Nat), x ≠ 0 → x < 2 ^ 64 → Go.Lib.bitLen x = x.log2 + 1 := by
  intro x
  induction x using Nat.strongRecOn with
  | _ x ih =>
    intro h0 h
    rw [Go.Lib.bitLen_half x h0 h, Nat.log2_def]
    by_cases c : 2 ≤ x
    · rw [if_pos c, ih (x / 2) (by omega) (by omega) (by omega)]
      omega
    · rw [if_neg c, show x / 2 = 0 by omega]
      rfl
theorem lg_own (n : Int) (hn : 0 ≤ n ∧ n ≤ 32) : ∀ (d i : Nat) (y o : Int), 16 - i = d → i ≤ 16 → 1073741824 ≤ y → y < 2147483648 → 0 ≤ o → o < 33 * 2 ^ i → Ev (fun k => fixed_Log2.l0 k y o (i : Int)) (o * 2 ^ d + frac d y, 0)
  | d, i, y, o, hd, hi, h1, h2, h3, h4 => by
    have b := sq_range (y := y) ⟨h1, h2⟩
    refine Ev.step (fun k => by rw [fixed_Log2.l0]) ?_
    by_cases c : i < 16
    · obtain ⟨d, rfl⟩ : ∃ e, d = e + 1 := ⟨d - 1, by omega⟩
      have eu : IntKind.u64.wrap (y * y) = y * y := by show (y * y) % 18446744073709551616 = _; omega
      have hp : (2 : Int) ^ (i + 1) = 2 * 2 ^ i := by rw [Int.pow_succ]; omega
      have hp16 : (2 : Int) ^ i ≤ 65536 := by
        have : (2 : Int) ^ i ≤ 2 ^ 16 := by
          have := Nat.pow_le_pow_right (n := 2) (by omega) (show i ≤ 16 by omega)
          exact_mod_cast this
        have e : (2 : Int) ^ 16 = 65536 := by decide
        omega
      have ed : (2 : Int) ^ (d + 1) = 2 * 2 ^ d := by rw [Int.pow_succ]; omega
      rw [eu, frac, w1 i (by omega), w64 (x := o * 2) (by omega) (by omega)]
      refine ev_pos (by omega) ?_
      by_cases g : y * y / 1073741824 ≥ 2147483648
      · rw [if_pos g, w64 (x := o * 2 + 1) (by omega) (by omega)]
        have h := lg_own n hn d (i + 1) (y * y / 1073741824 / 2) (o * 2 + 1) (by omega) (by omega) (by omega) (by omega) (by omega) (by rw [hp]; omega)
        have e : o * 2 ^ (d + 1) + (2 ^ d + frac d (y * y / 1073741824 / 2)) = (o * 2 + 1) * 2 ^ d + frac d (y * y / 1073741824 / 2) := by rw [ed, Int.add_mul, Int.mul_assoc]; omega
        rw [e]
        exact ev_pos g h
      · rw [if_neg g]
        have h := lg_own n hn d (i + 1) (y * y / 1073741824) (o * 2) (by omega) (by omega) (by omega) (by omega) (by omega) (by rw [hp]; omega)
        have e : o * 2 ^ (d + 1) + frac d (y * y / 1073741824) = o * 2 * 2 ^ d + frac d (y * y / 1073741824) := by rw [ed, Int.mul_assoc]
        rw [e]
        exact ev_neg g h
    · obtain rfl : i = 16 := by omega
      obtain rfl : d = 0 := by omega
      rw [show o * 2 ^ 0 + frac 0 y = o by rw [Int.pow_zero, Int.mul_one]; show o + 0 = o; omega]
      exact ev_neg (by omega) (Ev.now _)
theorem own_log (x : Int) (h0 : 1 ≤ x) (h1 : x ≤ 4294967296) : Ev (fun k => fixed_Log2.f k x) (logL x, 0) := by
  obtain ⟨a, rfl⟩ : ∃ a : Nat, x = a := ⟨x.toNat, by omega⟩
  have eu : IntKind.u64.wrap (a : Int) = (a : Int) := by show (a : Int) % 18446744073709551616 = _; omega
  have hb := bitLen_log2 a (by omega) (by omega)
  have hn := norm_range (x := a) (by omega)
  have hl := log2_b (x := a) (by omega)
  have hn32 : a.log2 < 33 := (Nat.log2_lt (by omega)).2 (by omega)
  unfold fixed_Log2.f
  rw [eu]
  refine ev_neg (by omega) (ev_is (show bits_Len64.f (a : Int) = some ((Go.Lib.bitLen a : Nat) : Int) by unfold bits_Len64.f; rw [if_pos (by omega), Int.toNat_natCast]) ?_)
  rw [hb]
  have e1 : wrap64 (((a.log2 + 1 : Nat) : Int) - 1) = (a.log2 : Int) := by rw [w64 (by omega) (by omega)]; omega
  rw [e1]
  unfold logL
  rw [Int.toNat_natCast]
  have fin : ∀ y : Int, y = normL a a.log2 → Ev (fun k => fixed_Log2.j0 k (a.log2 : Int) y) (65536 * (a.log2 : Int) + frac 16 (normL a a.log2), 0) := by
    intro y hy
    subst hy
    refine Ev.step (fun k => by rw [fixed_Log2.j0]) ?_
    have h := lg_own (a.log2 : Int) (by omega) 16 0 _ (a.log2 : Int) rfl (Nat.zero_le _) hn.1 hn.2 (by omega) (by rw [Int.pow_zero]; omega)
    rw [show (a.log2 : Int) * 2 ^ 16 = 65536 * (a.log2 : Int) by rw [show (2 : Int) ^ 16 = 65536 by decide]; omega] at h
    exact h
  by_cases c : (a.log2 : Int) > 30
  · have e2 : wrap64 ((a.log2 : Int) - 30) = ((a.log2 - 30 : Nat) : Int) := by rw [w64 (by omega) (by omega)]; omega
    refine ev_pos c ?_
    rw [e2]
    refine ev_pos (by omega) (fin _ ?_)
    unfold shr normL
    rw [if_pos (by omega), Int.toNat_natCast, show min (a.log2 - 30) IntKind.u64.bits = a.log2 - 30 by show min (a.log2 - 30) 64 = _; omega]
  · have e2 : wrap64 (30 - (a.log2 : Int)) = ((30 - a.log2 : Nat) : Int) := by rw [w64 (by omega) (by omega)]; omega
    refine ev_neg c ?_
    rw [e2]
    refine ev_pos (by omega) (fin _ ?_)
    unfold shl
    have en : normL a a.log2 = (a : Int) * 2 ^ (30 - a.log2) := by unfold normL; rw [if_neg (by omega)]
    rw [Int.toNat_natCast, show min (30 - a.log2) IntKind.u64.bits = 30 - a.log2 by show min (30 - a.log2) 64 = _; omega, ← en]
    show normL a a.log2 % 18446744073709551616 = _
    omega
theorem lg_l3 (n : Int) (hn : 0 ≤ n ∧ n ≤ 32) : ∀ (d i : Nat) (y o : Int), 16 - i = d → i ≤ 16 → 1073741824 ≤ y → y < 2147483648 → 0 ≤ o → o < 2 ^ i → Ev (fun k => r02_Log2.l3 k n y o (i : Int)) (65536 * n + (o * 2 ^ d + frac d y), 0)
  | d, i, y, o, hd, hi, h1, h2, h3, h4 => by
    have b := sq_range (y := y) ⟨h1, h2⟩
    have hp16 : (2 : Int) ^ i ≤ 65536 := by
      have : (2 : Int) ^ i ≤ 2 ^ 16 := by
        have := Nat.pow_le_pow_right (n := 2) (by omega) (show i ≤ 16 by omega)
        exact_mod_cast this
      have e : (2 : Int) ^ 16 = 65536 := by decide
      omega
    refine Ev.step (fun k => by rw [r02_Log2.l3]) ?_
    by_cases c : i < 16
    · obtain ⟨d, rfl⟩ : ∃ e, d = e + 1 := ⟨d - 1, by omega⟩
      have eq1 : wrap64 (Int.tdiv (wrap64 (y * y)) 1073741824) = y * y / 1073741824 := by
        rw [w64 (x := y * y) (by omega) (by omega), Int.tdiv_eq_ediv_of_nonneg (by omega), w64 (by omega) (by omega)]
      have eq2 : wrap64 (Int.tdiv (y * y / 1073741824) 2) = y * y / 1073741824 / 2 := by
        rw [Int.tdiv_eq_ediv_of_nonneg (by omega), w64 (by omega) (by omega)]
      have hp : (2 : Int) ^ (i + 1) = 2 * 2 ^ i := by rw [Int.pow_succ]; omega
      have ed : (2 : Int) ^ (d + 1) = 2 * 2 ^ d := by rw [Int.pow_succ]; omega
      rw [eq1, eq2, frac, w1 i (by omega), w64 (x := o * 2) (by omega) (by omega)]
      refine ev_pos (by omega) ?_
      by_cases g : y * y / 1073741824 ≥ 2147483648
      · rw [if_pos g, w64 (x := o * 2 + 1) (by omega) (by omega)]
        have h := lg_l3 n hn d (i + 1) (y * y / 1073741824 / 2) (o * 2 + 1) (by omega) (by omega) (by omega) (by omega) (by omega) (by rw [hp]; omega)
        have e : o * 2 ^ (d + 1) + (2 ^ d + frac d (y * y / 1073741824 / 2)) = (o * 2 + 1) * 2 ^ d + frac d (y * y / 1073741824 / 2) := by rw [ed, Int.add_mul, Int.mul_assoc]; omega
        rw [e]
        exact ev_pos g h
      · rw [if_neg g]
        have h := lg_l3 n hn d (i + 1) (y * y / 1073741824) (o * 2) (by omega) (by omega) (by omega) (by omega) (by omega) (by rw [hp]; omega)
        have e : o * 2 ^ (d + 1) + frac d (y * y / 1073741824) = o * 2 * 2 ^ d + frac d (y * y / 1073741824) := by rw [ed, Int.mul_assoc]
        rw [e]
        exact ev_neg g h
    · obtain rfl : i = 16 := by omega
      obtain rfl : d = 0 := by omega
      have e : (2 : Int) ^ 16 = 65536 := by decide
      rw [show o * 2 ^ 0 + frac 0 y = o by rw [Int.pow_zero, Int.mul_one]; show o + 0 = o; omega, w64 (x := 65536 * n) (by omega) (by omega), w64 (x := 65536 * n + o) (by omega) (by omega)]
      exact ev_neg (by omega) (Ev.now _)
theorem lg_fin (a : Nat) (h : a ≠ 0) (hn32 : a.log2 < 33) : Ev (fun k => r02_Log2.l3 k (a.log2 : Int) (normL a a.log2) 0 0) (logL (a : Int), 0) := by
  have hn := norm_range h
  have h := lg_l3 (a.log2 : Int) (by omega) 16 0 (normL a a.log2) 0 rfl (Nat.zero_le _) hn.1 hn.2 (Int.le_refl _) (by rw [Int.pow_zero]; omega)
  rw [Int.zero_mul, Int.zero_add] at h
  unfold logL
  rw [Int.toNat_natCast]
  exact h
theorem lg_l2 (n : Int) (R : Int × Int) : ∀ (d i : Nat) (y : Int), i - 30 = d → i ≤ 32 → 0 ≤ y → y ≤ 4294967296 → Ev (fun k => r02_Log2.l3 k n (y / 2 ^ d) 0 0) R → Ev (fun k => r02_Log2.l2 k n y (i : Int)) R
  | 0, i, y, hd, hi, h0, h1, h => by
    refine Ev.step (fun k => by rw [r02_Log2.l2]) (ev_neg (by omega) ?_)
    rw [Int.pow_zero, Int.ediv_one] at h
    exact h
  | d + 1, i, y, hd, hi, h0, h1, h => by
    refine Ev.step (fun k => by rw [r02_Log2.l2]) (ev_pos (by omega) ?_)
    have e : y / 2 ^ (d + 1) = y / 2 / 2 ^ d := by rw [Int.pow_succ, Int.mul_comm, Int.ediv_ediv_of_nonneg (by omega)]
    rw [e] at h
    rw [Int.tdiv_eq_ediv_of_nonneg h0, w64 (x := y / 2) (by omega) (by omega), w64 (by omega) (by omega), show (i : Int) - 1 = ((i - 1 : Nat) : Int) by omega]
    exact lg_l2 n R d (i - 1) (y / 2) (by omega) (by omega) (by omega) (by omega) h
theorem lg_l1 (n : Nat) (R : Int × Int) : ∀ (d i : Nat) (y : Int), 30 - i = d → 0 ≤ y → y * 2 ^ d < 9223372036854775808 → Ev (fun k => r02_Log2.l2 k (n : Int) (y * 2 ^ d) (n : Int)) R → Ev (fun k => r02_Log2.l1 k (n : Int) y (i : Int)) R
  | 0, i, y, hd, h0, h1, h => by
    refine Ev.step (fun k => by rw [r02_Log2.l1]) (ev_neg (by omega) ?_)
    rw [Int.pow_zero, Int.mul_one] at h
    exact h
  | d + 1, i, y, hd, h0, h1, h => by
    have e : y * 2 ^ (d + 1) = y * 2 * 2 ^ d := by rw [Int.pow_succ, Int.mul_comm (2 ^ d) 2, Int.mul_assoc]
    rw [e] at h h1
    have hp : (1 : Int) ≤ 2 ^ d := Int.pow_pos (by omega)
    have hm : y * 2 * 1 ≤ y * 2 * 2 ^ d := Int.mul_le_mul_of_nonneg_left hp (by omega)
    refine Ev.step (fun k => by rw [r02_Log2.l1]) (ev_pos (by omega) ?_)
    rw [w64 (x := y * 2) (by omega) (by omega), w1 i (by omega)]
    exact lg_l1 n R d (i + 1) (y * 2) (by omega) (by omega) h1 h
theorem lg_l0 (x : Int) (R : Int × Int) (n : Nat) (hn : n ≤ 40) (h : Ev (fun k => r02_Log2.l1 k (n : Int) x (n : Int)) R) : ∀ (d : Nat) (y i : Nat), y.log2 = d → y ≠ 0 → i + d = n → y < 9223372036854775808 → Ev (fun k => r02_Log2.l0 k x (i : Int) (y : Int)) R
  | d, y, i, hd, h0, hi, hy => by
    refine Ev.step (fun k => by rw [r02_Log2.l0]) ?_
    rw [Nat.log2_def] at hd
    by_cases c : 2 ≤ y
    · rw [if_pos c] at hd
      obtain ⟨d, rfl⟩ : ∃ e, d = e + 1 := ⟨d - 1, by omega⟩
      rw [w1 i (by omega), Int.tdiv_eq_ediv_of_nonneg (by omega), show (y : Int) / 2 = ((y / 2 : Nat) : Int) by omega, w64 (by omega) (by omega)]
      exact ev_pos (by omega) (lg_l0 x R n hn h d (y / 2) (i + 1) (by omega) (by omega) (by omega) (by omega))
    · rw [if_neg c] at hd
      subst hd
      obtain rfl : i = n := by omega
      exact ev_neg (by omega) h
theorem ref_log (x : Int) (h0 : 1 ≤ x) (h1 : x ≤ 4294967296) : Ev (fun k => r02_Log2.f k x) (logL x, 0) := by
  obtain ⟨a, rfl⟩ : ∃ a : Nat, x = a := ⟨x.toNat, by omega⟩
  have hn := norm_range (x := a) (by omega)
  have hn32 : a.log2 < 33 := (Nat.log2_lt (by omega)).2 (by omega)
  unfold r02_Log2.f
  refine ev_neg (by omega) (lg_l0 (a : Int) _ a.log2 (by omega) ?_ a.log2 a 0 rfl (by omega) (by omega) (by omega))
  have hf := lg_fin a (by omega) hn32
  unfold normL at hf hn
  by_cases c : a.log2 > 30
  · rw [if_pos c] at hf
    refine lg_l1 a.log2 _ 0 a.log2 (a : Int) (by omega) (by omega) (by rw [Int.pow_zero]; omega) ?_
    rw [Int.pow_zero, Int.mul_one]
    exact lg_l2 (a.log2 : Int) _ (a.log2 - 30) a.log2 (a : Int) rfl (by omega) (by omega) (by omega) hf
  · rw [if_neg c] at hf hn
    refine lg_l1 a.log2 _ (30 - a.log2) a.log2 (a : Int) rfl (by omega) (by omega) ?_
    refine lg_l2 (a.log2 : Int) _ 0 a.log2 _ (by omega) (by omega) (by omega) (by omega) ?_
    rw [Int.pow_zero, Int.ediv_one]
    exact hf
end Go.Proofs.Ythmckhfjaleomaa.Pure
