/- fixed.Exp2, fixed.Floor in plain Lean. -/
namespace Go.Proofs.Ytjcfhgpaipbedaa.St
def stepF (c y t : Int) : Int := c + Int.tdiv (y * t) 65536
def expY (t : Int) : Int := stepF 1073741824 (stepF 747400624 (stepF 241400000 84941200 t) t) t
/-- 2^(x / 65536) times 2^30. -/
def expF (x : Int) : Int := if min x 0 / 65536 ≤ -31 then 0 else expY (min x 0 % 65536) / 2 ^ (-(min x 0 / 65536)).toNat
theorem step_bounds (c y t b : Int) (hy : 0 ≤ y ∧ y ≤ b) (ht : 0 ≤ t ∧ t < 65536) : 0 ≤ y * t ∧ y * t ≤ b * 65536 ∧ c ≤ stepF c y t ∧ stepF c y t ≤ c + b := by
  have h1 : 0 ≤ y * t := Int.mul_nonneg hy.1 ht.1
  have h2 : y * t ≤ b * 65536 := Int.mul_le_mul hy.2 (by omega) ht.1 (by omega)
  refine ⟨h1, h2, ?_, ?_⟩
  · unfold stepF
    have := Int.tdiv_nonneg h1 (show (0 : Int) ≤ 65536 by omega)
    omega
  · unfold stepF
    rw [Int.tdiv_eq_ediv_of_nonneg h1]
    have := Int.ediv_le_ediv (show (0 : Int) < 65536 by omega) h2
    rw [Int.mul_ediv_cancel _ (by omega)] at this
    omega
theorem tmod_bounds (x d : Int) (hd : 0 < d) : d * Int.tdiv x d + Int.tmod x d = x ∧ -d < Int.tmod x d ∧ Int.tmod x d < d := by
  refine ⟨Int.mul_tdiv_add_tmod x d, ?_, Int.tmod_lt_of_pos x hd⟩
  rcases Int.lt_or_le x 0 with c | c
  · have h := Int.tmod_lt_of_pos (-x) hd
    rw [Int.neg_tmod] at h
    omega
  · have := Int.tmod_nonneg d c
    omega
theorem floor_neg (x : Int) (h : Int.tmod x 65536 < 0) : Int.tdiv x 65536 - 1 = x / 65536 ∧ Int.tmod x 65536 + 65536 = x % 65536 := by
  have := tmod_bounds x 65536 (by omega)
  omega
theorem floor_pos (x : Int) (h : ¬ Int.tmod x 65536 < 0) : Int.tdiv x 65536 = x / 65536 ∧ Int.tmod x 65536 = x % 65536 := by
  have := tmod_bounds x 65536 (by omega)
  omega
end Go.Proofs.Ytjcfhgpaipbedaa.St
