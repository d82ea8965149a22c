/- rank.Share in plain Lean. -/
import Derived.Test.YtfegaffcalpmbaaOrder
namespace Go.Proofs.Ytfegaffcalpmbaa.St
set_option linter.unusedVariables false
set_option linter.unusedSimpArgs false

def sumFrom : List Int → Int → Int × Int
  | [], acc => if acc = 0 then (0, 71) else (acc, 0)
  | x :: r, acc => if x < 0 then (0, 70) else if x > 1073741824 then (0, 70) else sumFrom r (acc + x)
def sumL (l : List Int) : Int × Int := if 4096 < l.length then (0, 70) else sumFrom l 0
def bump (xs : List Int) (is : List Int) : List Int := is.foldl (fun xs i => xs.set i.toNat (xs.getD i.toNat 0 + 1)) xs
def quos (l : List Int) (total all : Int) : List Int := l.map fun x => Int.tdiv (x * total) all
def rests (l : List Int) (total all : Int) : List Int := l.map fun x => Int.tmod (x * total) all
def missing (l : List Int) (total all : Int) : Int := total - (quos l total all).sum
def shareL (l : List Int) (total : Int) : List Int × Int :=
  if total < 1 ∨ total > 4294967296 then ([], 1) else if (sumL l).2 ≠ 0 then ([], (sumL l).2) else
    (bump (quos l total (sumL l).1) ((orderL (rests l total (sumL l).1)).take (missing l total (sumL l).1).toNat), 0)

theorem sumFrom_ok : ∀ (l : List Int) (acc : Int), 0 ≤ acc → (sumFrom l acc).2 = 0 → (∀ x ∈ l, 0 ≤ x ∧ x ≤ 1073741824) ∧ (sumFrom l acc).1 = acc + l.sum ∧ 0 < (sumFrom l acc).1
  | [], acc, ha, h => by
    unfold sumFrom at h ⊢
    split at h
    · cases h
    · rename_i c
      rw [if_neg c]
      exact ⟨by simp, by simp, by simp; omega⟩
  | x :: r, acc, ha, h => by
    unfold sumFrom at h ⊢
    split at h
    · cases h
    · split at h
      · cases h
      · rename_i c1 c2
        rw [if_neg c1, if_neg c2]
        obtain ⟨h1, h2, h3⟩ := sumFrom_ok r (acc + x) (by omega) h
        refine ⟨?_, by rw [h2, List.sum_cons]; omega, h3⟩
        intro y hy
        rcases List.mem_cons.1 hy with rfl | hy
        · omega
        · exact h1 y hy
theorem sumL_ok {l : List Int} (h : (sumL l).2 = 0) : l.length ≤ 4096 ∧ (∀ x ∈ l, 0 ≤ x ∧ x ≤ 1073741824) ∧ (sumL l).1 = l.sum ∧ 0 < (sumL l).1 := by
  unfold sumL at h ⊢
  split at h
  · cases h
  · rename_i c
    rw [if_neg c]
    obtain ⟨h1, h2, h3⟩ := sumFrom_ok l 0 (Int.le_refl _) h
    exact ⟨by omega, h1, by rw [h2]; omega, h3⟩
theorem sum_nonneg : ∀ {l : List Int}, (∀ x ∈ l, 0 ≤ x) → 0 ≤ l.sum
  | [], _ => by simp
  | x :: r, h => by
    rw [List.sum_cons]
    have := sum_nonneg (l := r) (fun y hy => h y (List.mem_cons_of_mem _ hy))
    have := h x List.mem_cons_self
    omega
theorem sum_le (b : Int) (hb : 0 ≤ b) : ∀ {l : List Int}, (∀ x ∈ l, x ≤ b) → l.sum ≤ b * l.length
  | [], _ => by simp
  | x :: r, h => by
    rw [List.sum_cons, List.length_cons]
    have h1 := sum_le b hb (l := r) (fun y hy => h y (List.mem_cons_of_mem _ hy))
    have h2 := h x List.mem_cons_self
    rw [Int.natCast_add, Int.mul_add]
    simp
    omega
theorem sum_mul (t : Int) : ∀ (l : List Int), (l.map fun x => x * t).sum = l.sum * t
  | [] => by simp
  | x :: r => by rw [List.map_cons, List.sum_cons, List.sum_cons, sum_mul t r, Int.add_mul]
theorem sum_quo_rest (t all : Int) : ∀ (l : List Int), (l.map fun x => x * t).sum = all * (quos l t all).sum + (rests l t all).sum
  | [] => by simp [quos, rests]
  | x :: r => by
    have h := sum_quo_rest t all r
    have e := Int.mul_tdiv_add_tmod (x * t) all
    unfold quos rests at h ⊢
    rw [List.map_cons, List.map_cons, List.map_cons, List.sum_cons, List.sum_cons, List.sum_cons, h, Int.mul_add]
    omega
structure ShareOk (l : List Int) (total all : Int) : Prop where
  len : l.length ≤ 4096
  pos : 0 < all
  le : all ≤ 4398046511104
  each : ∀ x ∈ l, 0 ≤ x ∧ x ≤ 1073741824 ∧ x ≤ all
  sum : all = l.sum
  t1 : 1 ≤ total
  t2 : total ≤ 4294967296
theorem mem_le_sum : ∀ {l : List Int}, (∀ x ∈ l, 0 ≤ x) → ∀ x ∈ l, x ≤ l.sum
  | [], _, x, hx => by cases hx
  | y :: r, h, x, hx => by
    rw [List.sum_cons]
    have h1 := sum_nonneg (l := r) (fun z hz => h z (List.mem_cons_of_mem _ hz))
    have h0 := h y List.mem_cons_self
    rcases List.mem_cons.1 hx with rfl | hx
    · omega
    · have := mem_le_sum (l := r) (fun z hz => h z (List.mem_cons_of_mem _ hz)) x hx
      omega
theorem shareOk {l : List Int} {total : Int} (h : (sumL l).2 = 0) (h1 : ¬ (total < 1 ∨ total > 4294967296)) : ShareOk l total (sumL l).1 := by
  obtain ⟨a, b, c, d⟩ := sumL_ok h
  have hs := sum_le 1073741824 (by omega) (l := l) (fun x hx => (b x hx).2)
  refine ⟨a, d, by omega, fun x hx => ⟨(b x hx).1, (b x hx).2, ?_⟩, c, by omega, by omega⟩
  rw [c]
  exact mem_le_sum (fun y hy => (b y hy).1) x hx
theorem ShareOk.quo {l : List Int} {t all : Int} (h : ShareOk l t all) (x : Int) (hx : x ∈ l) : 0 ≤ x * t ∧ x * t ≤ 4611686018427387904 ∧ 0 ≤ Int.tdiv (x * t) all ∧ Int.tdiv (x * t) all ≤ t ∧ 0 ≤ Int.tmod (x * t) all ∧ Int.tmod (x * t) all < all := by
  obtain ⟨h1, h2, h3⟩ := h.each x hx
  have ht1 := h.t1
  have ht2 := h.t2
  have hp := h.pos
  have a1 : 0 ≤ x * t := Int.mul_nonneg h1 (by omega)
  have a2 : x * t ≤ 1073741824 * 4294967296 := Int.mul_le_mul h2 ht2 (by omega) (by omega)
  refine ⟨a1, by omega, Int.tdiv_nonneg a1 (by omega), ?_, Int.tmod_nonneg _ a1, ?_⟩
  · rw [Int.tdiv_eq_ediv_of_nonneg a1]
    have a3 : x * t ≤ all * t := Int.mul_le_mul_of_nonneg_right h3 (by omega)
    have := Int.ediv_le_ediv hp a3
    rw [Int.mul_comm all t, Int.mul_ediv_cancel _ (by omega)] at this
    exact this
  · have := Int.tmod_lt_of_pos (x * t) hp
    exact this
theorem ShareOk.miss {l : List Int} {t all : Int} (h : ShareOk l t all) : all * missing l t all = (rests l t all).sum ∧ 0 ≤ missing l t all ∧ missing l t all ≤ l.length ∧ (0 < l.length → missing l t all < l.length) := by
  have hp := h.pos
  have e1 := sum_quo_rest t all l
  rw [sum_mul, ← h.sum] at e1
  have e2 : all * missing l t all = (rests l t all).sum := by
    unfold missing
    rw [Int.mul_sub]
    omega
  have n1 : 0 ≤ (rests l t all).sum := sum_nonneg (fun x hx => by
    unfold rests at hx
    obtain ⟨y, hy, rfl⟩ := List.mem_map.1 hx
    exact (h.quo y hy).2.2.2.2.1)
  have n2 : (rests l t all).sum ≤ (all - 1) * l.length := by
    have := sum_le (all - 1) (by omega) (l := rests l t all) (fun x hx => by
      unfold rests at hx
      obtain ⟨y, hy, rfl⟩ := List.mem_map.1 hx
      have := (h.quo y hy).2.2.2.2.2
      omega)
    simpa [rests] using this
  have n3 : (all - 1) * (l.length : Int) = all * l.length - l.length := by rw [Int.sub_mul, Int.one_mul]
  rw [← e2] at n1 n2
  have m0 : 0 ≤ missing l t all := by
    rcases Int.lt_or_le (missing l t all) 0 with c | c
    · have := Int.mul_neg_of_pos_of_neg hp c
      omega
    · exact c
  have m1 : missing l t all ≤ l.length := by
    rcases Int.lt_or_le (l.length : Int) (missing l t all) with c | c
    · have := Int.mul_lt_mul_of_pos_left c hp
      omega
    · exact c
  refine ⟨e2, m0, m1, fun hl => ?_⟩
  rcases Int.lt_or_le (missing l t all) (l.length : Int) with c | c
  · exact c
  · have := Int.mul_le_mul_of_nonneg_left c (Int.le_of_lt hp)
    omega
end Go.Proofs.Ytfegaffcalpmbaa.St
