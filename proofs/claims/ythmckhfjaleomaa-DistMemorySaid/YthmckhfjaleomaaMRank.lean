/- Several texts in one (Order, SharePlain, Rk1, Rk2, Rk3). -/
import Derived.Test.YthmckhfjaleomaaMSort
import Derived.Test.YthmckhfjaleomaaT4
import Derived.Test.YthmckhfjaleomaaT11
import Derived.Test.YthmckhfjaleomaaT12
/- The order of a list: what the stable sort of its places is, in plain Lean. -/
namespace Go.Proofs.Ythmckhfjaleomaa.St
set_option linter.unusedVariables false
set_option linter.unusedSimpArgs false
open Go.Sort

/-- .. as natural numbers. -/
def placesN (cf : Nat → Nat → Int) : Nat → List Nat
 | 0 => []
 | m + 1 => (stable (fun x y : Fin (m + 1) => decide (cf x.val y.val < 0)) (Array.ofFn fun i : Fin (m + 1) => i)).toList.map fun x => x.val
theorem places_eq (cf : Nat → Nat → Int) (n : Nat) : places cf n = (placesN cf n).map fun x : Nat => (x : Int) := by
 cases n with
 | zero => rfl
 | succ m => simp [places, placesN]

theorem placesN_spec (cf : Nat → Nat → Int) (n : Nat) (T : Nat → Nat → Prop) (hi : ∀ x, ¬ T x x) (ht : ∀ x y z, T x y → T y z → T x z)
  (tells : ∀ i j, i < j → j < n → (cf j i < 0 → T j i) ∧ (¬ cf j i < 0 → T i j)) : (placesN cf n).Perm (List.range n) ∧ (placesN cf n).Pairwise T := by
 cases n with
 | zero => exact ⟨List.Perm.refl _, List.Pairwise.nil⟩
 | succ m =>
  have hsz : (Array.ofFn fun i : Fin (m + 1) => i).size = m + 1 := by simp
  have hat : ∀ j (h : j < m + 1), (Array.ofFn fun i : Fin (m + 1) => i)[j]! = ⟨j, h⟩ := by
   intro j h
   rw [getElem!_pos _ j (by rw [hsz]; exact h)]
   simp
  obtain ⟨⟨p1, _, p2⟩, up⟩ := stable_spec (lt := fun x y : Fin (m + 1) => decide (cf x.val y.val < 0)) (T := fun x y : Fin (m + 1) => T x.val y.val) ⟨fun x => hi x.val, fun x y z => ht x.val y.val z.val⟩
   (Array.ofFn fun i : Fin (m + 1) => i) (by
    intro i j hij hj
    rw [hsz] at hj
    rw [hat i (by omega), hat j hj]
    obtain ⟨h1, h2⟩ := tells i j hij hj
    exact ⟨fun h => h1 (of_decide_eq_true h), fun h => h2 (of_decide_eq_false h)⟩)
  show ((stable (fun x y : Fin (m + 1) => decide (cf x.val y.val < 0)) (Array.ofFn fun i : Fin (m + 1) => i)).toList.map fun x => x.val).Perm _ ∧ ((stable (fun x y : Fin (m + 1) => decide (cf x.val y.val < 0)) (Array.ofFn fun i : Fin (m + 1) => i)).toList.map fun x => x.val).Pairwise T
  generalize stable (fun x y : Fin (m + 1) => decide (cf x.val y.val < 0)) (Array.ofFn fun i : Fin (m + 1) => i) = dk at p1 p2 up
  rw [hsz] at p1 p2 up
  have e0 : ∀ (d : Array (Fin (m + 1))), d.size = m + 1 → (d.extract 0 (m + 1)).toList = d.toList := by
   intro d h
   have : d.extract 0 d.size = d := by simp
   rw [h] at this
   rw [this]
  have e1 := e0 dk p1
  have e2 := e0 _ hsz
  rw [e1, e2] at p2
  constructor
  ·have h := p2.map (fun x : Fin (m + 1) => x.val)
   have e : ((Array.ofFn fun i : Fin (m + 1) => i).toList.map fun x : Fin (m + 1) => x.val) = List.range (m + 1) := by
    apply List.ext_getElem
    ·simp
    ·intro j h1 h2
     simp only [List.getElem_map, Array.getElem_toList, Array.getElem_ofFn, List.getElem_range]
   rw [e] at h
   exact h
  ·rw [List.pairwise_map, List.pairwise_iff_getElem]
   intro i j hi' hj' hij
   have h := up i j (Nat.zero_le _) hij (by simpa [p1] using hj')
   rw [getElem!_pos dk i (by simpa using hi'), getElem!_pos dk j (by simpa using hj')] at h
   simpa using h

/-- a stands ahead of b. -/
def Ahead (l : List Int) (a b : Nat) : Prop := l.getD b 0 < l.getD a 0 ∨ (l.getD a 0 = l.getD b 0 ∧ a < b)
theorem Ahead.irrefl (l : List Int) (x : Nat) : ¬ Ahead l x x := by unfold Ahead; omega
theorem Ahead.trans (l : List Int) (x y z : Nat) : Ahead l x y → Ahead l y z → Ahead l x z := by unfold Ahead; omega
theorem Ahead.total (l : List Int) {x y : Nat} (h : x ≠ y) : Ahead l x y ∨ Ahead l y x := by unfold Ahead; omega

def orderN (l : List Int) : List Nat := placesN (fun x y => cmpI (l.getD y 0) (l.getD x 0)) l.length
theorem orderL_eq (l : List Int) : orderL l = (orderN l).map fun x : Nat => (x : Int) := places_eq _ _
theorem orderN_spec (l : List Int) : (orderN l).Perm (List.range l.length) ∧ (orderN l).Pairwise (Ahead l) :=
 placesN_spec _ _ _ (Ahead.irrefl l) (Ahead.trans l) (by
  intro i j hij hj
  constructor
  ·intro h
   unfold cmpI at h
   unfold Ahead
   split at h
   ·omega
   ·split at h <;> omega
  ·intro h
   unfold cmpI at h
   unfold Ahead
   split at h
   ·omega
   ·split at h <;> omega)
/-- There is just one such order. -/
theorem order_unique (l : List Int) (o o' : List Nat) (hp : o.Perm o') (h : o.Pairwise (Ahead l)) (h' : o'.Pairwise (Ahead l)) : o = o' :=
 List.Perm.eq_of_pairwise (le := Ahead l) (fun a _ _ _ h1 h2 => (Ahead.irrefl l a (Ahead.trans l _ _ _ h1 h2)).elim) h h' hp
theorem orderN_length (l : List Int) : (orderN l).length = l.length := by rw [(orderN_spec l).1.length_eq, List.length_range]
theorem orderN_mem (l : List Int) (x : Nat) : x ∈ orderN l ↔ x < l.length := by rw [(orderN_spec l).1.mem_iff, List.mem_range]
theorem orderN_nodup (l : List Int) : (orderN l).Nodup := (orderN_spec l).1.nodup_iff.2 List.nodup_range
theorem orderN_get (l : List Int) (i : Nat) (h : i < l.length) : (orderN l).getD i 0 < l.length := by
 rw [List.getD_eq_getElem?_getD, List.getElem?_eq_getElem (by rw [orderN_length]; exact h)]
 exact (orderN_mem l _).1 (List.getElem_mem _)
end Go.Proofs.Ythmckhfjaleomaa.St
/- rank.Share in plain Lean. -/
namespace Go.Proofs.Ythmckhfjaleomaa.St
set_option linter.unusedVariables false
set_option linter.unusedSimpArgs false

def sumFrom : List Int → Int → Int × Int
 | [], acc => if acc = 0 then (0, 71) else (acc, 0)
 | x :: r, acc => if x < 0 then (0, 70) else if x > 1073741824 then (0, 70) else sumFrom r (acc + x)
def sumL (l : List Int) : Int × Int := if 4096 < l.length then (0, 70) else sumFrom l 0
def bump (xs : List Int) (is : List Int) : List Int := is.foldl (fun xs i => xs.set i.toNat (xs.getD i.toNat 0 + 1)) xs
def quos (l : List Int) (total all : Int) : List Int := l.map fun x => Int.tdiv (x * total) all
def rests (l : List Int) (total all : Int) : List Int := l.map fun x => Int.tmod (x * total) all
def missing (l : List Int) (total all : Int) : Int := total - (quos l total all).sum
def shareL (l : List Int) (total : Int) : List Int × Int :=
 if total < 1 ∨ total > 4294967296 then ([], 1) else if (sumL l).2 ≠ 0 then ([], (sumL l).2) else
  (bump (quos l total (sumL l).1) ((orderL (rests l total (sumL l).1)).take (missing l total (sumL l).1).toNat), 0)

theorem sumFrom_ok : ∀ (l : List Int) (acc : Int), 0 ≤ acc → (sumFrom l acc).2 = 0 → (∀ x ∈ l, 0 ≤ x ∧ x ≤ 1073741824) ∧ (sumFrom l acc).1 = acc + l.sum ∧ 0 < (sumFrom l acc).1
 | [], acc, ha, h => by
  unfold sumFrom at h ⊢
  split at h
  ·cases h
  ·rename_i c
   rw [if_neg c]
   exact ⟨by simp, by simp, by simp; omega⟩
 | x :: r, acc, ha, h => by
  unfold sumFrom at h ⊢
  split at h
  ·cases h
  ·split at h
   ·cases h
   ·rename_i c1 c2
    rw [if_neg c1, if_neg c2]
    obtain ⟨h1, h2, h3⟩ := sumFrom_ok r (acc + x) (by omega) h
    refine ⟨?_, by rw [h2, List.sum_cons]; omega, h3⟩
    intro y hy
    rcases List.mem_cons.1 hy with rfl | hy
    ·omega
    ·exact h1 y hy
theorem sumL_ok {l : List Int} (h : (sumL l).2 = 0) : l.length ≤ 4096 ∧ (∀ x ∈ l, 0 ≤ x ∧ x ≤ 1073741824) ∧ (sumL l).1 = l.sum ∧ 0 < (sumL l).1 := by
 unfold sumL at h ⊢
 split at h
 ·cases h
 ·rename_i c
  rw [if_neg c]
  obtain ⟨h1, h2, h3⟩ := sumFrom_ok l 0 (Int.le_refl _) h
  exact ⟨by omega, h1, by rw [h2]; omega, h3⟩
theorem sum_nonneg : ∀ {l : List Int}, (∀ x ∈ l, 0 ≤ x) → 0 ≤ l.sum
 | [], _ => by simp
 | x :: r, h => by
  rw [List.sum_cons]
  have := sum_nonneg (l := r) (fun y hy => h y (List.mem_cons_of_mem _ hy))
  have := h x List.mem_cons_self
  omega
theorem sum_le (b : Int) (hb : 0 ≤ b) : ∀ {l : List Int}, (∀ x ∈ l, x ≤ b) → l.sum ≤ b * l.length
 | [], _ => by simp
 | x :: r, h => by
  rw [List.sum_cons, List.length_cons]
  have h1 := sum_le b hb (l := r) (fun y hy => h y (List.mem_cons_of_mem _ hy))
  have h2 := h x List.mem_cons_self
  rw [Int.natCast_add, Int.mul_add]
  simp
  omega
theorem sum_mul (t : Int) : ∀ (l : List Int), (l.map fun x => x * t).sum = l.sum * t
 | [] => by simp
 | x :: r => by rw [List.map_cons, List.sum_cons, List.sum_cons, sum_mul t r, Int.add_mul]
theorem sum_quo_rest (t all : Int) : ∀ (l : List Int), (l.map fun x => x * t).sum = all * (quos l t all).sum + (rests l t all).sum
 | [] => by simp [quos, rests]
 | x :: r => by
  have h := sum_quo_rest t all r
  have e := Int.mul_tdiv_add_tmod (x * t) all
  unfold quos rests at h ⊢
  rw [List.map_cons, List.map_cons, List.map_cons, List.sum_cons, List.sum_cons, List.sum_cons, h, Int.mul_add]
  omega
structure ShareOk (l : List Int) (total all : Int) : Prop where
 len : l.length ≤ 4096
 pos : 0 < all
 le : all ≤ 4398046511104
 each : ∀ x ∈ l, 0 ≤ x ∧ x ≤ 1073741824 ∧ x ≤ all
 sum : all = l.sum
 t1 : 1 ≤ total
 t2 : total ≤ 4294967296
theorem mem_le_sum : ∀ {l : List Int}, (∀ x ∈ l, 0 ≤ x) → ∀ x ∈ l, x ≤ l.sum
 | [], _, x, hx => by cases hx
 | y :: r, h, x, hx => by
  rw [List.sum_cons]
  have h1 := sum_nonneg (l := r) (fun z hz => h z (List.mem_cons_of_mem _ hz))
  have h0 := h y List.mem_cons_self
  rcases List.mem_cons.1 hx with rfl | hx
  ·omega
  ·have := mem_le_sum (l := r) (fun z hz => h z (List.mem_cons_of_mem _ hz)) x hx
   omega
theorem shareOk {l : List Int} {total : Int} (h : (sumL l).2 = 0) (h1 : ¬ (total < 1 ∨ total > 4294967296)) : ShareOk l total (sumL l).1 := by
 obtain ⟨a, b, c, d⟩ := sumL_ok h
 have hs := sum_le 1073741824 (by omega) (l := l) (fun x hx => (b x hx).2)
 refine ⟨a, d, by omega, fun x hx => ⟨(b x hx).1, (b x hx).2, ?_⟩, c, by omega, by omega⟩
 rw [c]
 exact mem_le_sum (fun y hy => (b y hy).1) x hx
theorem ShareOk.quo {l : List Int} {t all : Int} (h : ShareOk l t all) (x : Int) (hx : x ∈ l) : 0 ≤ x * t ∧ x * t ≤ 4611686018427387904 ∧ 0 ≤ Int.tdiv (x * t) all ∧ Int.tdiv (x * t) all ≤ t ∧ 0 ≤ Int.tmod (x * t) all ∧ Int.tmod (x * t) all < all := by
 obtain ⟨h1, h2, h3⟩ := h.each x hx
 have ht1 := h.t1
 have ht2 := h.t2
 have hp := h.pos
 have a1 : 0 ≤ x * t := Int.mul_nonneg h1 (by omega)
 have a2 : x * t ≤ 1073741824 * 4294967296 := Int.mul_le_mul h2 ht2 (by omega) (by omega)
 refine ⟨a1, by omega, Int.tdiv_nonneg a1 (by omega), ?_, Int.tmod_nonneg _ a1, ?_⟩
 ·rw [Int.tdiv_eq_ediv_of_nonneg a1]
  have a3 : x * t ≤ all * t := Int.mul_le_mul_of_nonneg_right h3 (by omega)
  have := Int.ediv_le_ediv hp a3
  rw [Int.mul_comm all t, Int.mul_ediv_cancel _ (by omega)] at this
  exact this
 ·have := Int.tmod_lt_of_pos (x * t) hp
  exact this
theorem ShareOk.miss {l : List Int} {t all : Int} (h : ShareOk l t all) : all * missing l t all = (rests l t all).sum ∧ 0 ≤ missing l t all ∧ missing l t all ≤ l.length ∧ (0 < l.length → missing l t all < l.length) := by
 have hp := h.pos
 have e1 := sum_quo_rest t all l
 rw [sum_mul, ← h.sum] at e1
 have e2 : all * missing l t all = (rests l t all).sum := by
  unfold missing
  rw [Int.mul_sub]
  omega
 have n1 : 0 ≤ (rests l t all).sum := sum_nonneg (fun x hx => by
  unfold rests at hx
  obtain ⟨y, hy, rfl⟩ := List.mem_map.1 hx
  exact (h.quo y hy).2.2.2.2.1)
 have n2 : (rests l t all).sum ≤ (all - 1) * l.length := by
  have := sum_le (all - 1) (by omega) (l := rests l t all) (fun x hx => by
   unfold rests at hx
   obtain ⟨y, hy, rfl⟩ := List.mem_map.1 hx
   have := (h.quo y hy).2.2.2.2.2
   omega)
  simpa [rests] using this
 have n3 : (all - 1) * (l.length : Int) = all * l.length - l.length := by rw [Int.sub_mul, Int.one_mul]
 rw [← e2] at n1 n2
 have m0 : 0 ≤ missing l t all := by
  rcases Int.lt_or_le (missing l t all) 0 with c | c
  ·have := Int.mul_neg_of_pos_of_neg hp c
   omega
  ·exact c
 have m1 : missing l t all ≤ l.length := by
  rcases Int.lt_or_le (l.length : Int) (missing l t all) with c | c
  ·have := Int.mul_lt_mul_of_pos_left c hp
   omega
  ·exact c
 refine ⟨e2, m0, m1, fun hl => ?_⟩
 rcases Int.lt_or_le (missing l t all) (l.length : Int) with c | c
 ·exact c
 ·have := Int.mul_le_mul_of_nonneg_left c (Int.le_of_lt hp)
  omega
end Go.Proofs.Ythmckhfjaleomaa.St
/- rank and its reference compute the same order, sum and shares. -/
namespace Go.Proofs.Ythmckhfjaleomaa.Pure
set_option linter.unusedSimpArgs false
set_option linter.unusedVariables false
open Go.RowKit Go.Proofs.YthmckhfjaleomaaW.PrintWords Go.Proofs.YthmckhfjaleomaaW.PrintLast Go.Proofs.YthmckhfjaleomaaW.PrintMore Go.Proofs.Ythmckhfjaleomaa.T Go.Proofs.Ythmckhfjaleomaa.St

theorem w64 {x : Int} (h1 : -9223372036854775808 ≤ x) (h2 : x < 9223372036854775808) : wrap64 x = x := by unfold wrap64; omega
theorem rd_nat (l : List Int) (i : Nat) : rd l (i : Int) = l.getD i 0 := by unfold rd; rw [Int.toNat_natCast]
theorem drop_get (l : List Int) (i : Nat) (h : i < l.length) : l.drop i = l.getD i 0 :: l.drop (i + 1) := by
 rw [List.drop_eq_getElem_cons h, List.getD_eq_getElem?_getD, List.getElem?_eq_getElem h]; rfl

/-! ### sums -/
theorem own_sum_l (l : List Int) : ∀ (d i : Nat) (acc : Int), l.length - i = d → i ≤ l.length → l.length ≤ 4096 → 0 ≤ acc → acc ≤ 1073741824 * (i : Int) → ∀ k, d + 1 ≤ k →
  rank_sum.l0 k acc l (l.length : Int) (i : Int) = some (sumFrom (l.drop i) acc)
 | d, i, acc, hd, hi, hl, h0, h1, 0, hk => by omega
 | d, i, acc, hd, hi, hl, h0, h1, k + 1, hk => by
  rw [rank_sum.l0]
  by_cases c : i < l.length
  ·have cz : (i : Int) < (l.length : Int) := by omega
   rw [if_pos cz, if_pos (by omega), if_pos cz, rd_nat, drop_get l i c, sumFrom]
   by_cases c1 : l.getD i 0 < 0
   ·rw [if_pos c1, if_pos c1]
   ·rw [if_neg c1, if_neg c1]
    by_cases c2 : l.getD i 0 > 1073741824
    ·rw [if_pos c2, if_pos c2]
    ·rw [if_neg c2, if_neg c2, w64 (by omega) (by omega), w64 (by omega) (by omega)]
     exact own_sum_l l (l.length - (i + 1)) (i + 1) _ rfl (by omega) hl (by omega) (by omega) k (by omega)
  ·rw [if_neg (by omega), List.drop_eq_nil_of_le (by omega), sumFrom]
   by_cases c1 : acc = 0
   ·rw [if_pos c1, if_pos c1]
   ·rw [if_neg c1, if_neg c1]
theorem own_sum (l : List Int) (k : Nat) (hk : 5000 ≤ k) : rank_sum.f k l = some (sumL l) := by
 rw [rank_sum.f, sumL]
 by_cases c : 4096 < l.length
 ·rw [if_pos c, if_pos (by omega)]
 ·rw [if_neg c, if_neg (by omega)]
  exact own_sum_l l _ 0 0 rfl (Nat.zero_le _) (by omega) (Int.le_refl _) (by omega) k (by omega)
theorem ref_sum_l (l : List Int) : ∀ (d i : Nat) (acc : Int), l.length - i = d → i ≤ l.length → l.length ≤ 4096 → 0 ≤ acc → acc ≤ 1073741824 * (i : Int) → ∀ k, d + 1 ≤ k →
  r07_sum.l0 k l acc (i : Int) = some (sumFrom (l.drop i) acc)
 | d, i, acc, hd, hi, hl, h0, h1, 0, hk => by omega
 | d, i, acc, hd, hi, hl, h0, h1, k + 1, hk => by
  rw [r07_sum.l0]
  by_cases c : i < l.length
  ·have cz : (i : Int) < (l.length : Int) := by omega
   rw [if_pos cz, if_pos (by omega), rd_nat, drop_get l i c, sumFrom]
   by_cases c1 : l.getD i 0 < 0
   ·rw [if_pos c1, if_pos c1]
   ·rw [if_neg c1, if_neg c1]
    by_cases c2 : l.getD i 0 > 1073741824
    ·rw [if_pos c2, if_pos c2]
    ·rw [if_neg c2, if_neg c2, w64 (by omega) (by omega), w64 (by omega) (by omega)]
     exact ref_sum_l l (l.length - (i + 1)) (i + 1) _ rfl (by omega) hl (by omega) (by omega) k (by omega)
  ·rw [if_neg (by omega), List.drop_eq_nil_of_le (by omega), sumFrom]
   by_cases c1 : acc = 0
   ·rw [if_pos c1, if_pos c1]
   ·rw [if_neg c1, if_neg c1]
theorem ref_sum (l : List Int) (k : Nat) (hk : 5000 ≤ k) : r07_sum.f k l = some (sumL l) := by
 rw [r07_sum.f, sumL]
 by_cases c : 4096 < l.length
 ·rw [if_pos c, if_pos (by omega)]
 ·rw [if_neg c, if_neg (by omega)]
  exact ref_sum_l l _ 0 0 rfl (Nat.zero_le _) (by omega) (Int.le_refl _) (by omega) k (by omega)

/-! ### orders -/
theorem own_order (l : List Int) (h : l.length ≤ 17592186044416) : rank_Order.f l = some (orderL l) := by rw [rank_Order.f, if_pos h]

/-- where the i-th goes among o's first p. -/
def find (l : List Int) (o : List Int) (i : Nat) : Nat → Nat
 | 0 => 0
 | p + 1 => if l.getD (o.getD p 0).toNat 0 < l.getD i 0 then find l o i p else p + 1
theorem find_le (l o : List Int) (i : Nat) : ∀ p, find l o i p ≤ p
 | 0 => Nat.le_refl _
 | p + 1 => by
  rw [find]
  split
  ·have := find_le l o i p; omega
  ·exact Nat.le_refl _
theorem find_less (l o : List Int) (i : Nat) : ∀ p q, find l o i p ≤ q → q < p → l.getD (o.getD q 0).toNat 0 < l.getD i 0
 | 0, q, h1, h2 => by omega
 | p + 1, q, h1, h2 => by
  rw [find] at h1
  split at h1
  ·rename_i c
   by_cases e : q = p
   ·subst e; exact c
   ·exact find_less l o i p q h1 (by omega)
  ·omega
theorem find_ge (l o : List Int) (i : Nat) : ∀ p, 0 < find l o i p → ¬ l.getD (o.getD (find l o i p - 1) 0).toNat 0 < l.getD i 0
 | 0, h => by rw [find] at h; omega
 | p + 1, h => by
  rw [find] at h ⊢
  split at h
  ·rename_i c
   rw [if_pos c]
   exact find_ge l o i p h
  ·rename_i c
   rw [if_neg c]
   simpa using c

theorem ref_l1 (l o : List Int) (i : Nat) (hi : i < l.length) (hl : l.length ≤ 17592186044416) (ho : ∀ q, q < o.length → 0 ≤ o.getD q 0 ∧ o.getD q 0 < (l.length : Int)) : ∀ (p k : Nat), p ≤ o.length → o.length ≤ 17592186044416 →
  r07_Order.l1 (k + (p - find l o i p) + 1) l o (i : Int) (p : Int) = r07_Order.j2 k l o (i : Int) (find l o i p : Int)
 | 0, k, hp, hol => by
  rw [find]
  show r07_Order.l1 (k + 1) l o (i : Int) 0 = _
  rw [r07_Order.l1, if_neg (by omega)]
  rfl
 | p + 1, k, hp, hol => by
  rw [r07_Order.l1, if_pos (by omega), w64 (by omega) (by omega), show ((p + 1 : Nat) : Int) - 1 = (p : Int) by omega, if_pos (by omega), if_pos (by omega), rd_nat, rd_nat]
  obtain ⟨h1, h2⟩ := ho p (by omega)
  rw [if_pos h1, if_pos h2, if_pos (by omega), if_pos (by omega), show rd l (o.getD p 0) = l.getD (o.getD p 0).toNat 0 from rfl, find]
  by_cases c : l.getD (o.getD p 0).toNat 0 < l.getD i 0
  ·rw [if_pos c, if_pos c]
   have hle := find_le l o i p
   have e : k + (p + 1 - find l o i p) = k + (p - find l o i p) + 1 := by omega
   rw [e]
   exact ref_l1 l o i hi hl ho p k (by omega) hol
  ·rw [if_neg c, if_neg c]
   have e : k + (p + 1 - (p + 1)) = k := by omega
   rw [e]

theorem ref_l2 (l : List Int) (i p : Nat) (hb : p ≤ 17592186044416) : ∀ (t k : Nat) (x : List Int), p + t < x.length → x.length ≤ 17592186044417 → i ≤ 17592186044416 →
  ∃ y : List Int, (∀ j, y[j]? = if j < p then x[j]? else if j = p then some (i : Int) else if j ≤ p + t then x[j - 1]? else x[j]?) ∧
   r07_Order.l2 (k + t + 1) l x (i : Int) (p : Int) ((p + t : Nat) : Int) = r07_Order.l0 k l y ((i + 1 : Nat) : Int)
 | 0, k, x, hp, hx, hi => by
  refine ⟨x.set p (i : Int), fun j => ?_, ?_⟩
  ·rw [List.getElem?_set]
   by_cases c : p = j
   ·subst c; rw [if_pos rfl, if_pos (by omega), if_neg (by omega), if_pos rfl]
   ·rw [if_neg c]
    by_cases c2 : j < p
    ·rw [if_pos c2]
    ·rw [if_neg c2, if_neg (by omega), if_neg (by omega)]
  ·rw [r07_Order.l2, if_neg (by omega), if_pos (by omega), if_pos (by omega), w64 (by omega) (by omega), Int.toNat_natCast]
   rw [show ((i + 1 : Nat) : Int) = (i : Int) + 1 by omega]
 | t + 1, k, x, hp, hx, hi => by
  obtain ⟨y, hy, he⟩ := ref_l2 l i p hb t k (x.set (p + t + 1) (x.getD (p + t) 0)) (by rw [List.length_set]; omega) (by rw [List.length_set]; omega) hi
  refine ⟨y, fun j => ?_, ?_⟩
  ·rw [hy j, List.getElem?_set, List.getElem?_set]
   by_cases c1 : j < p
   ·rw [if_pos c1, if_pos c1, if_neg (by omega)]
   ·rw [if_neg c1, if_neg c1]
    by_cases c2 : j = p
    ·rw [if_pos c2, if_pos c2]
    ·rw [if_neg c2, if_neg c2]
     by_cases c3 : j ≤ p + t
     ·rw [if_pos c3, if_neg (show ¬ p + t + 1 = j - 1 by omega), if_pos (show j ≤ p + (t + 1) by omega)]
     ·rw [if_neg c3]
      by_cases c4 : p + t + 1 = j
      ·subst c4
       rw [if_pos rfl, if_pos (show p + t + 1 < x.length by omega), if_pos (show p + t + 1 ≤ p + (t + 1) by omega), List.getD_eq_getElem?_getD]
       show some ((x[p + t]?).getD 0) = x[p + t]?
       rw [List.getElem?_eq_getElem (by omega)]
       rfl
      ·rw [if_neg c4, if_neg (show ¬ j ≤ p + (t + 1) by omega)]
  ·rw [r07_Order.l2, if_pos (by omega), w64 (by omega) (by omega), show ((p + (t + 1) : Nat) : Int) - 1 = ((p + t : Nat) : Int) by omega, if_pos (by omega), if_pos (by omega), if_pos (by omega), if_pos (by omega), rd_nat, Int.toNat_natCast, show p + (t + 1) = p + t + 1 by omega, show k + (t + 1) = k + t + 1 by omega]
   exact he

def ins (o : List Nat) (p i : Nat) : List Nat := o.take p ++ i :: o.drop p
theorem ref_step (l : List Int) (o : List Nat) (i : Nat) (hi : i < l.length) (hl : l.length < 17592186044416) (ho : ∀ x ∈ o, x < i) (hol : o.length = i) (k : Nat) :
  ∃ c p, p ≤ i ∧ p = find l (o.map fun x : Nat => (x : Int)) i i ∧ r07_Order.l0 (k + c) l (o.map fun x : Nat => (x : Int)) (i : Int) = r07_Order.l0 k l ((ins o p i).map fun x : Nat => (x : Int)) ((i + 1 : Nat) : Int) := by
 have hm : (o.map fun x : Nat => (x : Int)).length = i := by rw [List.length_map]; exact hol
 have hget : ∀ q, q < o.length → (o.map fun x : Nat => (x : Int)).getD q 0 = ((o.getD q 0 : Nat) : Int) := by
  intro q hq
  simp [List.getD_eq_getElem?_getD, List.getElem?_eq_getElem hq]
 have hb : ∀ q, q < (o.map fun x : Nat => (x : Int)).length → 0 ≤ (o.map fun x : Nat => (x : Int)).getD q 0 ∧ (o.map fun x : Nat => (x : Int)).getD q 0 < (l.length : Int) := by
  intro q hq
  rw [hm] at hq
  rw [hget q (by omega)]
  have : o.getD q 0 ∈ o := by
   rw [List.getD_eq_getElem?_getD, List.getElem?_eq_getElem (by omega)]
   exact List.getElem_mem _
  have := ho _ this
  omega
 have hle := find_le l (o.map fun x : Nat => (x : Int)) i i
 obtain ⟨p, hp⟩ : ∃ p, p = find l (o.map fun x : Nat => (x : Int)) i i := ⟨_, rfl⟩
 rw [← hp] at hle
 obtain ⟨y, hy, he⟩ := ref_l2 l i p (by omega) (i - p) k ((o.map fun x : Nat => (x : Int)) ++ [0]) (by rw [List.length_append, hm, List.length_singleton]; omega) (by rw [List.length_append, hm, List.length_singleton]; omega) (by omega)
 have h1 := ref_l1 l (o.map fun x : Nat => (x : Int)) i hi (by omega) hb i (k + (i - p) + 1 + 1) (by rw [hm]; exact Nat.le_refl _) (by rw [hm]; omega)
 rw [← hp] at h1
 have hyy : y = (ins o p i).map fun x : Nat => (x : Int) := by
  apply List.ext_getElem?
  intro j
  rw [hy j, show p + (i - p) = i by omega, ins, List.map_append, List.map_cons, List.map_take, List.map_drop]
  generalize hom : (o.map fun x : Nat => (x : Int)) = om at hm
  have m1 : (om.take p).length = p := by rw [List.length_take, hm]; omega
  by_cases c1 : j < p
  ·rw [if_pos c1, List.getElem?_append_left (l₁ := om) (by omega), List.getElem?_append_left (l₁ := om.take p) (by omega), List.getElem?_take, if_pos c1]
  ·rw [if_neg c1, List.getElem?_append_right (l₁ := om.take p) (by omega), m1]
   by_cases c2 : j = p
   ·subst c2; rw [if_pos rfl, Nat.sub_self]; rfl
   ·rw [if_neg c2]
    obtain ⟨q, rfl⟩ : ∃ q, j = q + p + 1 := ⟨j - p - 1, by omega⟩
    rw [show q + p + 1 - p = q + 1 by omega, List.getElem?_cons_succ, List.getElem?_drop, show p + q = q + p by omega]
    by_cases c3 : q + p + 1 ≤ i
    ·rw [if_pos c3, show q + p + 1 - 1 = q + p by omega, List.getElem?_append_left (l₁ := om) (by omega)]
    ·rw [if_neg c3, List.getElem?_append_right (l₁ := om) (by omega), hm, List.getElem?_eq_none (l := om) (by omega)]
     rw [List.getElem?_eq_none (by simp; omega)]
 refine ⟨(i - p) + 1 + 1 + (i - p) + 1 + 1, p, hle, hp, ?_⟩
 rw [show k + ((i - p) + 1 + 1 + (i - p) + 1 + 1) = (k + (i - p) + 1 + 1 + (i - p) + 1) + 1 by omega, r07_Order.l0, if_pos (by omega), hm, h1, r07_Order.j2, hm, if_pos (by omega), Option.bind_some]
 have e2 : wrap64 ((((o.map fun x : Nat => (x : Int)) ++ [0]).length : Int) - 1) = ((p + (i - p) : Nat) : Int) := by
  rw [List.length_append, hm, List.length_singleton, w64 (by omega) (by omega)]
  omega
 rw [e2, he, hyy]
end Go.Proofs.Ythmckhfjaleomaa.Pure
/- rank and its reference: orders and shares, whole. -/
namespace Go.Proofs.Ythmckhfjaleomaa.Pure
set_option linter.unusedSimpArgs false
set_option linter.unusedVariables false
set_option linter.unusedSectionVars false
open Go.RowKit Go.Proofs.YthmckhfjaleomaaW.PrintWords Go.Proofs.YthmckhfjaleomaaW.PrintLast Go.Proofs.YthmckhfjaleomaaW.PrintMore Go.Proofs.Ythmckhfjaleomaa.T Go.Proofs.Ythmckhfjaleomaa.St

theorem up_of {α : Type} {f : Nat → Option α} (hm : ∀ k, LeO (f k) (f (k + 1))) {K : Nat} {r : α} (h : f K = some r) : ∀ k, K ≤ k → f k = some r := by
 intro k hk
 obtain ⟨d, rfl⟩ : ∃ d, k = K + d := ⟨k - K, by omega⟩
 clear hk
 induction d with
 | zero => exact h
 | succ d ih => exact hm (K + d) r ih

theorem ins_ok (l : List Int) (o : List Nat) (i p : Nat) (hp : p ≤ i) (hpf : p = find l (o.map fun x : Nat => (x : Int)) i i) (h1 : o.Perm (List.range i)) (h2 : o.Pairwise (Ahead l)) :
  (ins o p i).Perm (List.range (i + 1)) ∧ (ins o p i).Pairwise (Ahead l) := by
 have hol : o.length = i := by rw [h1.length_eq, List.length_range]
 have hlt : ∀ x ∈ o, x < i := fun x hx => List.mem_range.1 (h1.mem_iff.1 hx)
 have hget : ∀ q (hq : q < o.length), ((o.map fun x : Nat => (x : Int)).getD q 0).toNat = o[q] := by
  intro q hq
  simp [List.getD_eq_getElem?_getD, List.getElem?_eq_getElem hq]
 constructor
 ·unfold ins
  have e1 : (o.take p ++ i :: o.drop p).Perm (i :: (o.take p ++ o.drop p)) := List.perm_middle
  rw [List.take_append_drop] at e1
  refine e1.trans ?_
  rw [List.range_succ]
  exact ((h1.cons i).trans (List.perm_append_singleton i (List.range i)).symm)
 ·unfold ins
  have h3 := h2
  rw [← List.take_append_drop p o, List.pairwise_append] at h3
  rw [List.pairwise_append, List.pairwise_cons]
  refine ⟨h3.1, ⟨?_, h3.2.1⟩, ?_⟩
  ·intro b hb
   obtain ⟨q, hq, rfl⟩ := List.getElem_of_mem hb
   rw [List.length_drop] at hq
   rw [List.getElem_drop]
   have := find_less l (o.map fun x : Nat => (x : Int)) i i (p + q) (by omega) (by omega)
   rw [hget (p + q) (by omega)] at this
   exact .inl this
  ·intro a ha b hb
   rcases List.mem_cons.1 hb with rfl | hb
   ·obtain ⟨q, hq, rfl⟩ := List.getElem_of_mem ha
    rw [List.length_take] at hq
    rw [List.getElem_take]
    have hpp : 0 < p := by omega
    have hge := find_ge l (o.map fun x : Nat => (x : Int)) b b (by omega)
    rw [← hpf, hget (p - 1) (by omega)] at hge
    have hai := hlt o[q] (List.getElem_mem _)
    by_cases e : q = p - 1
    ·subst e
     unfold Ahead
     omega
    ·have := (List.pairwise_iff_getElem.1 h2) q (p - 1) (by omega) (by omega) (by omega)
     unfold Ahead at this ⊢
     omega
   ·exact h3.2.2 a ha b hb

theorem ref_order_l (l : List Int) (hl : l.length < 17592186044416) : ∀ (d i : Nat) (o : List Nat), l.length - i = d → i ≤ l.length → o.Perm (List.range i) → o.Pairwise (Ahead l) →
  ∃ K, r07_Order.l0 K l (o.map fun x : Nat => (x : Int)) (i : Int) = some (orderL l)
 | 0, i, o, hd, hi, h1, h2 => by
  obtain rfl : i = l.length := by omega
  have e : o = orderN l := order_unique l o _ (h1.trans (orderN_spec l).1.symm) h2 (orderN_spec l).2
  refine ⟨1, ?_⟩
  rw [r07_Order.l0, if_neg (by omega), orderL_eq, e]
 | d + 1, i, o, hd, hi, h1, h2 => by
  have hol : o.length = i := by rw [h1.length_eq, List.length_range]
  have hlt : ∀ x ∈ o, x < i := fun x hx => List.mem_range.1 (h1.mem_iff.1 hx)
  obtain ⟨c0, p, hp, hpf, _⟩ := ref_step l o i (by omega) hl hlt hol 0
  obtain ⟨q1, q2⟩ := ins_ok l o i p hp hpf h1 h2
  obtain ⟨K, hK⟩ := ref_order_l l hl d (i + 1) (ins o p i) (by omega) (by omega) q1 q2
  obtain ⟨c, p', hp', hpf', he⟩ := ref_step l o i (by omega) hl hlt hol K
  rw [← hpf] at hpf'
  subst hpf'
  exact ⟨K + c, by rw [he]; exact hK⟩
theorem ref_order (l : List Int) (hl : l.length < 17592186044416) : ∃ K, ∀ k, K ≤ k → r07_Order.f k l = some (orderL l) := by
 obtain ⟨K, h⟩ := ref_order_l l hl _ 0 [] rfl (Nat.zero_le _) (List.Perm.refl _) List.Pairwise.nil
 exact ⟨K, up_of (f := fun k => r07_Order.f k l) (fun k => r07_Order.mono l k) h⟩

/-! ### shares -/
def fillTo (xs : List Int) (i : Nat) : List Int := xs.take i ++ List.replicate (xs.length - i) 0
theorem fillTo_zero (xs : List Int) : fillTo xs 0 = List.replicate xs.length 0 := by simp [fillTo]
theorem fillTo_all (xs : List Int) : fillTo xs xs.length = xs := by simp [fillTo]
theorem fillTo_length (xs : List Int) (i : Nat) (h : i ≤ xs.length) : (fillTo xs i).length = xs.length := by simp [fillTo]; omega
theorem fillTo_get (xs : List Int) (i j : Nat) (h : i ≤ xs.length) : (fillTo xs i)[j]? = if j < i then xs[j]? else if j < xs.length then some 0 else none := by
 unfold fillTo
 have m1 : min i xs.length = i := by omega
 rw [List.getElem?_append, List.length_take, m1, List.getElem?_take, List.getElem?_replicate]
 by_cases c : j < i
 ·rw [if_pos c, if_pos c, if_pos c]
 ·rw [if_neg c, if_neg c]
  by_cases c2 : j < xs.length
  ·rw [if_pos (by omega), if_pos c2]
  ·rw [if_neg (by omega), if_neg c2]
theorem fillTo_set (xs : List Int) (i : Nat) (h : i < xs.length) : (fillTo xs i).set i (xs.getD i 0) = fillTo xs (i + 1) := by
 apply List.ext_getElem?
 intro j
 rw [List.getElem?_set, fillTo_length xs i (by omega), fillTo_get xs i j (by omega), fillTo_get xs (i + 1) j (by omega)]
 by_cases c : i = j
 ·subst c
  rw [if_pos rfl, if_pos h, if_pos (by omega), List.getD_eq_getElem?_getD, List.getElem?_eq_getElem h]
  rfl
 ·rw [if_neg c]
  by_cases c2 : j < i
  ·rw [if_pos c2, if_pos (by omega)]
  ·rw [if_neg c2, if_neg (show ¬ j < i + 1 by omega)]
theorem getD_mem (l : List Int) (i : Nat) (h : i < l.length) : l.getD i 0 ∈ l := by
 rw [List.getD_eq_getElem?_getD, List.getElem?_eq_getElem h]
 exact List.getElem_mem _
theorem getD_map (l : List Int) (f : Int → Int) (i : Nat) (h : i < l.length) : (l.map f).getD i 0 = f (l.getD i 0) := by
 simp [List.getD_eq_getElem?_getD, List.getElem?_eq_getElem h]
theorem take_succ_sum (l : List Int) (i : Nat) (h : i < l.length) : (l.take (i + 1)).sum = (l.take i).sum + l.getD i 0 := by
 rw [List.take_succ_eq_append_getElem h, List.sum_append, List.getD_eq_getElem?_getD, List.getElem?_eq_getElem h]
 simp

theorem own_bump (y : List Int) (n : Nat) (hy : ∀ v ∈ y, 0 ≤ v ∧ v < (n : Int)) (hyl : y.length ≤ 4096) : ∀ (d j : Nat) (xs : List Int), y.length - j = d → j ≤ y.length → xs.length = n → (∀ v ∈ xs, 0 ≤ v ∧ v ≤ 4294967296 + (j : Int)) → ∀ k, d + 1 ≤ k →
  rank_Share.l1 k xs y (y.length : Int) (j : Int) = some (bump xs (y.drop j), 0)
 | d, j, xs, hd, hj, hx, hb, 0, hk => by omega
 | d, j, xs, hd, hj, hx, hb, k + 1, hk => by
  rw [rank_Share.l1]
  by_cases c : j < y.length
  ·have hv := hy _ (getD_mem y j c)
   rw [if_pos (by omega), if_pos (by omega), if_pos (by omega), rd_nat, if_pos hv.1, if_pos (by rw [hx]; exact hv.2), drop_get y j c]
   obtain ⟨v, hvv⟩ : ∃ v : Nat, y.getD j 0 = (v : Int) := ⟨(y.getD j 0).toNat, by omega⟩
   rw [hvv] at hv ⊢
   have hg := hb _ (getD_mem xs v (by omega))
   rw [rd_nat, Int.toNat_natCast, w64 (by omega) (by omega), w64 (by omega) (by omega)]
   show rank_Share.l1 k _ y (y.length : Int) ((j : Int) + 1) = some (bump (xs.set v (xs.getD v 0 + 1)) (y.drop (j + 1)), 0)
   refine own_bump y n hy hyl (y.length - (j + 1)) (j + 1) _ rfl (by omega) (by rw [List.length_set]; exact hx) ?_ k (by omega)
   intro u hu
   rcases List.mem_or_eq_of_mem_set hu with h | h
   ·have := hb u h; omega
   ·omega
  ·rw [if_neg (by omega), List.drop_eq_nil_of_le (by omega)]
   rfl
theorem ref_bump (y : List Int) (n m : Nat) (hy : ∀ v ∈ y, 0 ≤ v ∧ v < (n : Int)) (hyl : y.length ≤ 4096) (hm : m ≤ y.length) : ∀ (d j : Nat) (xs : List Int), m - j = d → j ≤ m → xs.length = n → (∀ v ∈ xs, 0 ≤ v ∧ v ≤ 4294967296 + (j : Int)) → ∀ k, d + 1 ≤ k →
  r07_Share.l1 k xs (m : Int) y (j : Int) = some (bump xs ((y.take m).drop j), 0)
 | d, j, xs, hd, hj, hx, hb, 0, hk => by omega
 | d, j, xs, hd, hj, hx, hb, k + 1, hk => by
  rw [r07_Share.l1]
  have tl : (y.take m).length = m := by rw [List.length_take]; omega
  by_cases c : j < m
  ·have hv := hy _ (getD_mem y j (by omega))
   rw [if_pos (by omega), if_pos (by omega), if_pos (by omega), rd_nat, if_pos hv.1, if_pos (by rw [hx]; exact hv.2), drop_get (y.take m) j (by omega)]
   have e : (y.take m).getD j 0 = y.getD j 0 := by rw [List.getD_eq_getElem?_getD, List.getElem?_take, if_pos c, List.getD_eq_getElem?_getD]
   rw [e]
   obtain ⟨v, hvv⟩ : ∃ v : Nat, y.getD j 0 = (v : Int) := ⟨(y.getD j 0).toNat, by omega⟩
   rw [hvv] at hv ⊢
   have hg := hb _ (getD_mem xs v (by omega))
   rw [rd_nat, Int.toNat_natCast, w64 (by omega) (by omega), w64 (by omega) (by omega)]
   show r07_Share.l1 k _ (m : Int) y ((j : Int) + 1) = some (bump (xs.set v (xs.getD v 0 + 1)) ((y.take m).drop (j + 1)), 0)
   refine ref_bump y n m hy hyl hm (m - (j + 1)) (j + 1) _ rfl (by omega) (by rw [List.length_set]; exact hx) ?_ k (by omega)
   intro u hu
   rcases List.mem_or_eq_of_mem_set hu with h | h
   ·have := hb u h; omega
   ·omega
  ·rw [if_neg (by omega), List.drop_eq_nil_of_le (by omega)]
   rfl

section
variable {l : List Int} {t all : Int} (h : ShareOk l t all)
include h
theorem quos_get (i : Nat) (hi : i < l.length) : (quos l t all).getD i 0 = Int.tdiv (l.getD i 0 * t) all := by unfold quos; rw [getD_map _ _ _ hi]
theorem rests_get (i : Nat) (hi : i < l.length) : (rests l t all).getD i 0 = Int.tmod (l.getD i 0 * t) all := by unfold rests; rw [getD_map _ _ _ hi]
theorem quos_mem : ∀ v ∈ quos l t all, 0 ≤ v ∧ v ≤ 4294967296 := by
 intro v hv
 unfold quos at hv
 obtain ⟨x, hx, rfl⟩ := List.mem_map.1 hv
 have := h.quo x hx
 have := h.t2
 omega
theorem order_mem (m : Nat) : ∀ v ∈ orderL (rests l t all), 0 ≤ v ∧ v < (l.length : Int) := by
 intro v hv
 rw [orderL_eq] at hv
 obtain ⟨x, hx, rfl⟩ := List.mem_map.1 hv
 have := (orderN_mem _ _).1 hx
 unfold rests at this
 rw [List.length_map] at this
 omega
theorem order_len : (orderL (rests l t all)).length = l.length := by
 rw [orderL_eq, List.length_map, orderN_length]
 unfold rests
 rw [List.length_map]

theorem own_share_l : ∀ (d i : Nat), l.length - i = d → i ≤ l.length → (0 ≤ ((quos l t all).take i).sum ∧ ((quos l t all).take i).sum ≤ 4294967296 * (i : Int)) → ∀ k, d + 5000 ≤ k →
  rank_Share.l0 k t all (fillTo (quos l t all) i) (fillTo (rests l t all) i) (t - ((quos l t all).take i).sum) l (l.length : Int) (i : Int) =
   some (bump (quos l t all) ((orderL (rests l t all)).take (missing l t all).toNat), 0)
 | d, i, hd, hi, hb, 0, hk => by omega
 | d, i, hd, hi, hb, k + 1, hk => by
  have ql : (quos l t all).length = l.length := by unfold quos; rw [List.length_map]
  have rl : (rests l t all).length = l.length := by unfold rests; rw [List.length_map]
  have ht1 := h.t1
  have ht2 := h.t2
  have hp := h.pos
  have hle := h.le
  have hlen := h.len
  rw [rank_Share.l0]
  by_cases c : i < l.length
  ·obtain ⟨a1, a2, a3, a4, a5, a6⟩ := h.quo _ (getD_mem l i c)
   rw [if_pos (by omega), if_pos (by omega), if_pos (by omega), if_neg (by omega), if_pos (by rw [fillTo_length _ _ (by omega)]; omega), if_pos (by rw [fillTo_length _ _ (by omega)]; omega), rd_nat, w64 (x := l.getD i 0 * t) (by omega) (by omega), w64 (x := Int.tdiv (l.getD i 0 * t) all) (by omega) (by omega), Int.toNat_natCast, ← quos_get h i c, ← rests_get h i c, fillTo_set _ _ (by omega), fillTo_set _ _ (by omega)]
   have es := take_succ_sum (quos l t all) i (by omega)
   rw [← quos_get h i c] at a3 a4
   rw [w64 (x := (i : Int) + 1) (by omega) (by omega), w64 (by omega) (by omega)]
   have e2 : t - ((quos l t all).take i).sum - (quos l t all).getD i 0 = t - ((quos l t all).take (i + 1)).sum := by omega
   rw [e2]
   exact own_share_l (l.length - (i + 1)) (i + 1) rfl (by omega) (by omega) k (by omega)
  ·obtain rfl : i = l.length := by omega
   obtain ⟨m0, m1, m2, _⟩ := h.miss
   have e1 : fillTo (quos l t all) l.length = quos l t all := by rw [← ql]; exact fillTo_all _
   have e2 : fillTo (rests l t all) l.length = rests l t all := by rw [← rl]; exact fillTo_all _
   have e3 : t - ((quos l t all).take l.length).sum = missing l t all := by rw [← ql, List.take_length]; rfl
   rw [if_neg (by omega), e1, e2, e3, own_order _ (by rw [rl]; omega), Option.bind_some, if_pos m1, if_pos (by rw [order_len h]; exact m2), Option.bind_some]
   have hm := order_mem h 0
   refine own_bump _ l.length (fun v hv => hm v (List.mem_of_mem_take hv)) (by rw [List.length_take, order_len h]; omega) _ 0 _ rfl (Nat.zero_le _) ql (fun v hv => ?_) k (by rw [List.length_take, order_len h]; omega)
   have := quos_mem h v hv
   omega
theorem ref_share_l (K : Nat) (hK : ∀ k, K ≤ k → r07_Order.f k (rests l t all) = some (orderL (rests l t all))) : ∀ (d i : Nat), l.length - i = d → i ≤ l.length → (0 ≤ ((quos l t all).take i).sum ∧ ((quos l t all).take i).sum ≤ 4294967296 * (i : Int)) → ∀ k, d + K + 5000 ≤ k →
  r07_Share.l0 k l t all ((quos l t all).take i) ((rests l t all).take i) (t - ((quos l t all).take i).sum) (i : Int) =
   some (bump (quos l t all) ((orderL (rests l t all)).take (missing l t all).toNat), 0)
 | d, i, hd, hi, hb, 0, hk => by omega
 | d, i, hd, hi, hb, k + 1, hk => by
  have ql : (quos l t all).length = l.length := by unfold quos; rw [List.length_map]
  have rl : (rests l t all).length = l.length := by unfold rests; rw [List.length_map]
  have ht1 := h.t1
  have ht2 := h.t2
  have hp := h.pos
  have hle := h.le
  have hlen := h.len
  rw [r07_Share.l0]
  by_cases c : i < l.length
  ·obtain ⟨a1, a2, a3, a4, a5, a6⟩ := h.quo _ (getD_mem l i c)
   have l8 : ((quos l t all).take i).length = i := by rw [List.length_take]; omega
   have l9 : ((rests l t all).take i).length = i := by rw [List.length_take]; omega
   have n8 : (quos l t all).take i ++ [(quos l t all).getD i 0] = (quos l t all).take (i + 1) := by
    rw [List.take_succ_eq_append_getElem (by omega : i < (quos l t all).length), List.getD_eq_getElem?_getD, List.getElem?_eq_getElem (by omega)]
    rfl
   have n9 : (rests l t all).take i ++ [(rests l t all).getD i 0] = (rests l t all).take (i + 1) := by
    rw [List.take_succ_eq_append_getElem (by omega : i < (rests l t all).length), List.getD_eq_getElem?_getD, List.getElem?_eq_getElem (by omega)]
    rfl
   rw [if_pos (by omega), if_pos (by omega), if_neg (by omega), if_pos (by omega), rd_nat, w64 (x := l.getD i 0 * t) (by omega) (by omega), w64 (x := Int.tdiv (l.getD i 0 * t) all) (by omega) (by omega), ← quos_get h i c, ← rests_get h i c, n8, n9, Option.bind_some, if_pos (by omega), if_pos (by rw [List.length_take]; omega), rd_nat]
   have e0 : ((quos l t all).take (i + 1)).getD i 0 = (quos l t all).getD i 0 := by rw [List.getD_eq_getElem?_getD, List.getElem?_take, if_pos (by omega), List.getD_eq_getElem?_getD]
   rw [e0]
   have es := take_succ_sum (quos l t all) i (by omega)
   rw [← quos_get h i c] at a3 a4
   rw [w64 (x := (i : Int) + 1) (by omega) (by omega), w64 (by omega) (by omega)]
   have e2 : t - ((quos l t all).take i).sum - (quos l t all).getD i 0 = t - ((quos l t all).take (i + 1)).sum := by omega
   rw [e2]
   exact ref_share_l K hK (l.length - (i + 1)) (i + 1) rfl (by omega) (by omega) k (by omega)
  ·obtain rfl : i = l.length := by omega
   obtain ⟨m0, m1, m2, _⟩ := h.miss
   have e1 : (quos l t all).take l.length = quos l t all := by rw [← ql, List.take_length]
   have e2 : (rests l t all).take l.length = rests l t all := by rw [← rl, List.take_length]
   have e3 : t - ((quos l t all).take l.length).sum = missing l t all := by rw [← ql, List.take_length]; rfl
   rw [if_neg (by omega), e3, e1, e2, hK k (by omega), Option.bind_some]
   obtain ⟨m, hm⟩ : ∃ m : Nat, missing l t all = (m : Int) := ⟨(missing l t all).toNat, by omega⟩
   rw [hm, Int.toNat_natCast]
   refine ref_bump _ l.length m (order_mem h 0) (by rw [order_len h]; omega) (by rw [order_len h]; omega) _ 0 _ rfl (Nat.zero_le _) ql (fun v hv => ?_) k (by omega)
   have := quos_mem h v hv
   omega
end

theorem own_share (l : List Int) (t : Int) (k : Nat) (hk : 10000 ≤ k) : rank_Share.f k l t = some (shareL l t) := by
 obtain ⟨k, rfl⟩ : ∃ q, k = q + 1 := ⟨k - 1, by omega⟩
 have hj : rank_Share.f (k + 1) l t = rank_Share.j0 (k + 1) l t (decide (t < 1 ∨ t > 4294967296)) := by
  rw [rank_Share.f]
  by_cases c : t < 1
  ·rw [if_pos c, decide_eq_true (Or.inl c)]
  ·rw [if_neg c]
   congr 1
   by_cases c2 : t > 4294967296
   ·rw [decide_eq_true c2, decide_eq_true (Or.inr c2)]
   ·rw [decide_eq_false c2, decide_eq_false (by omega)]
 rw [hj, rank_Share.j0, shareL]
 by_cases c : t < 1 ∨ t > 4294967296
 ·rw [decide_eq_true c, if_pos rfl, if_pos c]
 ·rw [decide_eq_false c, if_neg (by decide), if_neg c, own_sum l k (by omega), Option.bind_some]
  by_cases c2 : (sumL l).2 = 0
  ·have h := shareOk c2 c
   have hlen := h.len
   rw [if_pos c2, if_neg (show ¬ (sumL l).2 ≠ 0 by rw [c2]; simp), if_pos (by omega), Int.toNat_natCast, if_pos (by omega)]
   have e1 := fillTo_zero (quos l t (sumL l).1)
   have e2 := fillTo_zero (rests l t (sumL l).1)
   rw [show (quos l t (sumL l).1).length = l.length by unfold quos; rw [List.length_map]] at e1
   rw [show (rests l t (sumL l).1).length = l.length by unfold rests; rw [List.length_map]] at e2
   have := own_share_l h _ 0 rfl (Nat.zero_le _) (by simp) k (by omega)
   rw [e1, e2] at this
   simpa using this
  ·rw [if_neg c2, if_pos c2]
theorem ref_share (l : List Int) (t : Int) (hl : l.length < 17592186044416) : ∃ K, ∀ k, K ≤ k → r07_Share.f k l t = some (shareL l t) := by
 obtain ⟨K, hK⟩ := ref_order (rests l t (sumL l).1) (by unfold rests; rw [List.length_map]; exact hl)
 refine ⟨K + 10000, fun k hk => ?_⟩
 obtain ⟨k, rfl⟩ : ∃ q, k = q + 1 := ⟨k - 1, by omega⟩
 have hj : r07_Share.f (k + 1) l t = r07_Share.j0 (k + 1) l t (decide (t < 1 ∨ t > 4294967296)) := by
  rw [r07_Share.f]
  by_cases c : t < 1
  ·rw [if_pos c, decide_eq_true (Or.inl c)]
  ·rw [if_neg c]
   congr 1
   by_cases c2 : t > 4294967296
   ·rw [decide_eq_true c2, decide_eq_true (Or.inr c2)]
   ·rw [decide_eq_false c2, decide_eq_false (by omega)]
 rw [hj, r07_Share.j0, shareL]
 by_cases c : t < 1 ∨ t > 4294967296
 ·rw [decide_eq_true c, if_pos rfl, if_pos c]
 ·rw [decide_eq_false c, if_neg (by decide), if_neg c, ref_sum l k (by omega), Option.bind_some]
  by_cases c2 : (sumL l).2 = 0
  ·have h := shareOk c2 c
   have hlen := h.len
   rw [if_pos c2, if_neg (show ¬ (sumL l).2 ≠ 0 by rw [c2]; simp)]
   have := ref_share_l h K hK _ 0 rfl (Nat.zero_le _) (by simp) k (by omega)
   simpa using this
  ·rw [if_neg c2, if_pos c2]

theorem length_bump : ∀ (is xs : List Int), (bump xs is).length = xs.length
 | [], xs => rfl
 | i :: r, xs => by
  show (bump (xs.set i.toNat (xs.getD i.toNat 0 + 1)) r).length = _
  rw [length_bump r, List.length_set]
theorem length_share (l : List Int) (t : Int) : (shareL l t).1.length ≤ l.length := by
 unfold shareL
 split
 ·exact Nat.zero_le _
 ·split
  ·exact Nat.zero_le _
  ·show (bump _ _).length ≤ _
   rw [length_bump]
   unfold quos
   rw [List.length_map]
   exact Nat.le_refl _
end Go.Proofs.Ythmckhfjaleomaa.Pure
/- RankOrders: the order and its beginnings are the document's. -/
namespace Go.Proofs.Ythmckhfjaleomaa.Pure
set_option linter.unusedSimpArgs false
set_option linter.unusedVariables false
open Go.RowKit Go.Proofs.YthmckhfjaleomaaW.PrintWords Go.Proofs.YthmckhfjaleomaaW.PrintLast Go.Proofs.YthmckhfjaleomaaW.PrintMore Go.Proofs.Ythmckhfjaleomaa.T Go.Proofs.Ythmckhfjaleomaa.St

def topL (l : List Int) (k : Int) : List Int := if k > 0 ∧ k < (l.length : Int) then (orderL l).take k.toNat else orderL l
theorem orderL_len (l : List Int) : (orderL l).length = l.length := by rw [orderL_eq, List.length_map, orderN_length]
theorem topL_len (l : List Int) (k : Int) : (topL l k).length ≤ l.length := by
 unfold topL
 split
 ·rw [List.length_take, orderL_len]; omega
 ·rw [orderL_len]; exact Nat.le_refl _
theorem own_top (l : List Int) (hl : l.length ≤ 17592186044416) (a : Int) : rank_Top.f l a = some (topL l a) := by
 rw [rank_Top.f, own_order _ hl, Option.bind_some, topL, orderL_len]
 by_cases c : a > 0
 ·rw [if_pos c]
  by_cases c2 : a < (l.length : Int)
  ·rw [if_pos c2, if_pos (by omega), if_pos (by omega), if_pos ⟨c, c2⟩, slices_Clone_int_int.f, if_pos (by rw [List.length_take, orderL_len]; omega)]
   rfl
  ·rw [if_neg c2, if_neg (by omega)]
 ·rw [if_neg c, if_neg (by omega)]
theorem ref_top (l : List Int) (a : Int) (k : Nat) (h : r07_Order.f k l = some (orderL l)) : r07_Top.f k l a = some (topL l a) := by
 rw [r07_Top.f, h, Option.bind_some, topL, orderL_len]
 by_cases c : a > 0
 ·rw [if_pos c]
  by_cases c2 : a < (l.length : Int)
  ·rw [if_pos c2, if_pos (by omega), if_pos (by omega), if_pos ⟨c, c2⟩]
  ·rw [if_neg c2, if_neg (by omega)]
 ·rw [if_neg c, if_neg (by omega)]
/-- how many of the order's, from the n-th on, until so much is weighed. -/
def enough (l o : List Int) (need : Int) : Nat → Nat → Int → Nat
 | 0, n, sm => n
 | d + 1, n, sm => if sm * 65536 < need then enough l o need d (n + 1) (sm + l.getD (o.getD n 0).toNat 0) else n
theorem enough_le (l o : List Int) (need : Int) : ∀ d n s, n ≤ enough l o need d n s ∧ enough l o need d n s ≤ n + d
 | 0, n, s => ⟨Nat.le_refl _, Nat.le_refl _⟩
 | d + 1, n, s => by
  rw [enough]
  split
  ·have := enough_le l o need d (n + 1) (s + l.getD (o.getD n 0).toNat 0); omega
  ·omega
/-- what is left of the order weighs what is missing -/
def rest (l o : List Int) (n : Nat) : Int := ((o.drop n).map fun x => l.getD x.toNat 0).sum
theorem rest_succ (l o : List Int) (n : Nat) (h : n < o.length) : rest l o n = l.getD (o.getD n 0).toNat 0 + rest l o (n + 1) := by
 unfold rest
 rw [drop_get o n h, List.map_cons, List.sum_cons]
theorem rest_end (l o : List Int) (n : Nat) (h : o.length ≤ n) : rest l o n = 0 := by
 unfold rest
 rw [List.drop_eq_nil_of_le h]
 rfl
theorem perm_sum {a b : List Int} (h : a.Perm b) : a.sum = b.sum := by
 induction h with
 | nil => rfl
 | cons x _ ih => rw [List.sum_cons, List.sum_cons, ih]
 | swap x y l => rw [List.sum_cons, List.sum_cons, List.sum_cons, List.sum_cons]; omega
 | trans _ _ h1 h2 => rw [h1, h2]
theorem rest_zero (l : List Int) : rest l (orderL l) 0 = l.sum := by
 unfold rest
 rw [List.drop_zero, orderL_eq, List.map_map]
 have e : ((orderN l).map ((fun x => l.getD x.toNat 0) ∘ fun x : Nat => (x : Int))).Perm ((List.range l.length).map ((fun x => l.getD x.toNat 0) ∘ fun x : Nat => (x : Int))) := (orderN_spec l).1.map _
 rw [perm_sum e]
 congr 1
 apply List.ext_getElem
 ·simp
 ·intro i h1 h2
  simp [List.getD_eq_getElem?_getD, List.getElem?_eq_getElem h2]

section
variable {l : List Int} {part all : Int} (hlen : l.length ≤ 4096) (hl : ∀ x ∈ l, 0 ≤ x ∧ x ≤ 1073741824) (hp : 1 ≤ part ∧ part ≤ 65536) (ha : 0 < all ∧ all ≤ 4398046511104)
include hlen hl hp ha
theorem own_nuc_l : ∀ (d n : Nat) (s : Int), l.length - n = d → n ≤ l.length → 0 ≤ s → s ≤ 1073741824 * (n : Int) → all = s + rest l (orderL l) n → ∀ k, d + 1 ≤ k →
  rank_Nucleus.l0 k l part all (orderL l) (n : Int) s = some ((orderL l).take (enough l (orderL l) (part * all) d n s), 0)
 | d, n, s, hd, hn, h0, h1, he, 0, hk => by omega
 | d, n, s, hd, hn, h0, h1, he, k + 1, hk => by
  have ol := orderL_len l
  have b1 : part * all ≤ 65536 * all := Int.mul_le_mul_of_nonneg_right hp.2 (by omega)
  have b0 : 0 ≤ part * all := Int.mul_nonneg (by omega) (by omega)
  rw [rank_Nucleus.l0, w64 (x := s * 65536) (by omega) (by omega), w64 (x := part * all) (by omega) (by omega)]
  by_cases c : s * 65536 < part * all
  ·have hnl : n < l.length := by
    rcases Nat.lt_or_ge n l.length with h | h
    ·exact h
    ·rw [rest_end _ _ _ (by omega)] at he
     omega
   obtain ⟨d, rfl⟩ : ∃ e, d = e + 1 := ⟨d - 1, by omega⟩
   have hv : 0 ≤ (orderL l).getD n 0 ∧ (orderL l).getD n 0 < (l.length : Int) := by
    have hm := getD_mem (orderL l) n (by omega)
    rw [orderL_eq] at hm ⊢
    obtain ⟨x, hx, he⟩ := List.mem_map.1 hm
    have := (orderN_mem _ _).1 hx
    omega
   have hr := rest_succ l (orderL l) n (by omega)
   rw [if_pos c, if_pos (by omega), if_pos (by omega), rd_nat, if_pos hv.1, if_pos hv.2, enough, if_pos c]
   have hx := hl _ (getD_mem l ((orderL l).getD n 0).toNat (by omega))
   show rank_Nucleus.l0 k l part all (orderL l) (wrap64 ((n : Int) + 1)) (wrap64 (s + l.getD ((orderL l).getD n 0).toNat 0)) = _
   rw [w64 (by omega) (by omega), w64 (by omega) (by omega)]
   exact own_nuc_l d (n + 1) _ (by omega) (by omega) (by omega) (by omega) (by omega) k (by omega)
  ·have e : enough l (orderL l) (part * all) d n s = n := by
    cases d with
    | zero => rfl
    | succ d => rw [enough, if_neg c]
   rw [if_neg c, if_pos (by omega), if_pos (by omega), e, slices_Clone_int_int.f, if_pos (by rw [List.length_take]; omega), Option.bind_some, Int.toNat_natCast]
theorem ref_nuc_l : ∀ (d n : Nat) (s : Int), l.length - n = d → n ≤ l.length → 0 ≤ s → s ≤ 1073741824 * (n : Int) → all = s + rest l (orderL l) n → ∀ k, d + 1 ≤ k →
  r07_Nucleus.l0 k l part all (orderL l) (n : Int) s = some ((orderL l).take (enough l (orderL l) (part * all) d n s), 0)
 | d, n, s, hd, hn, h0, h1, he, 0, hk => by omega
 | d, n, s, hd, hn, h0, h1, he, k + 1, hk => by
  have ol := orderL_len l
  have b1 : part * all ≤ 65536 * all := Int.mul_le_mul_of_nonneg_right hp.2 (by omega)
  have b0 : 0 ≤ part * all := Int.mul_nonneg (by omega) (by omega)
  rw [r07_Nucleus.l0, w64 (x := s * 65536) (by omega) (by omega), w64 (x := part * all) (by omega) (by omega)]
  by_cases c : s * 65536 < part * all
  ·have hnl : n < l.length := by
    rcases Nat.lt_or_ge n l.length with h | h
    ·exact h
    ·rw [rest_end _ _ _ (by omega)] at he
     omega
   obtain ⟨d, rfl⟩ : ∃ e, d = e + 1 := ⟨d - 1, by omega⟩
   have hv : 0 ≤ (orderL l).getD n 0 ∧ (orderL l).getD n 0 < (l.length : Int) := by
    have hm := getD_mem (orderL l) n (by omega)
    rw [orderL_eq] at hm ⊢
    obtain ⟨x, hx, he⟩ := List.mem_map.1 hm
    have := (orderN_mem _ _).1 hx
    omega
   have hr := rest_succ l (orderL l) n (by omega)
   rw [if_pos c, if_pos (by omega), if_pos (by omega), rd_nat, if_pos hv.1, if_pos hv.2, enough, if_pos c]
   have hx := hl _ (getD_mem l ((orderL l).getD n 0).toNat (by omega))
   show r07_Nucleus.l0 k l part all (orderL l) (wrap64 ((n : Int) + 1)) (wrap64 (s + l.getD ((orderL l).getD n 0).toNat 0)) = _
   rw [w64 (by omega) (by omega), w64 (by omega) (by omega)]
   exact ref_nuc_l d (n + 1) _ (by omega) (by omega) (by omega) (by omega) (by omega) k (by omega)
  ·have e : enough l (orderL l) (part * all) d n s = n := by
    cases d with
    | zero => rfl
    | succ d => rw [enough, if_neg c]
   rw [if_neg c, if_pos (by omega), if_pos (by omega), e, Int.toNat_natCast]
end
def nucL (l : List Int) (part : Int) : List Int × Int :=
 if part < 1 ∨ part > 65536 then ([], 1) else if (sumL l).2 ≠ 0 then ([], (sumL l).2) else ((orderL l).take (enough l (orderL l) (part * (sumL l).1) l.length 0 0), 0)
theorem nucL_len (l : List Int) (part : Int) : (nucL l part).1.length ≤ l.length := by
 unfold nucL
 split
 ·exact Nat.zero_le _
 ·split
  ·exact Nat.zero_le _
  ·show (List.take _ _).length ≤ _
   rw [List.length_take, orderL_len]; omega
theorem sum_all (l : List Int) (h : (sumL l).2 = 0) : l.length ≤ 4096 ∧ (∀ x ∈ l, 0 ≤ x ∧ x ≤ 1073741824) ∧ (0 < (sumL l).1 ∧ (sumL l).1 ≤ 4398046511104) ∧ (sumL l).1 = 0 + rest l (orderL l) 0 := by
 obtain ⟨a, b, c, d⟩ := sumL_ok h
 have hs := sum_le 1073741824 (by omega) (l := l) (fun x hx => (b x hx).2)
 refine ⟨a, b, ⟨d, by omega⟩, ?_⟩
 rw [rest_zero, c]; omega
theorem own_nuc (l : List Int) (hl : l.length ≤ 17592186044416) (a : Int) (k : Nat) (hk : 10000 ≤ k) : rank_Nucleus.f k l a = some (nucL l a) := by
 obtain ⟨k, rfl⟩ : ∃ q, k = q + 1 := ⟨k - 1, by omega⟩
 have hj : rank_Nucleus.f (k + 1) l a = rank_Nucleus.j0 (k + 1) l a (decide (a < 1 ∨ a > 65536)) := by
  rw [rank_Nucleus.f]
  by_cases c : a < 1
  ·rw [if_pos c, decide_eq_true (Or.inl c)]
  ·rw [if_neg c]
   congr 1
   by_cases c2 : a > 65536
   ·rw [decide_eq_true c2, decide_eq_true (Or.inr c2)]
   ·rw [decide_eq_false c2, decide_eq_false (by omega)]
 rw [hj, rank_Nucleus.j0, nucL]
 by_cases c : a < 1 ∨ a > 65536
 ·rw [decide_eq_true c, if_pos rfl, if_pos c]
 ·rw [decide_eq_false c, if_neg (by decide), if_neg c, own_sum l k (by omega), Option.bind_some]
  by_cases c2 : (sumL l).2 = 0
  ·obtain ⟨h1, h2, h3, h4⟩ := sum_all l c2
   rw [if_pos c2, if_neg (show ¬ (sumL l).2 ≠ 0 by rw [c2]; simp), own_order _ hl, Option.bind_some]
   exact own_nuc_l h1 h2 (by omega) h3 l.length 0 0 rfl (Nat.zero_le _) (Int.le_refl _) (by omega) h4 k (by omega)
  ·rw [if_neg c2, if_pos c2]
theorem ref_nuc (l : List Int) (hl : l.length < 17592186044416) (a : Int) : ∃ K, ∀ k, K ≤ k → r07_Nucleus.f k l a = some (nucL l a) := by
 obtain ⟨K, hK⟩ := ref_order l hl
 refine ⟨K + 10000, fun k hk => ?_⟩
 obtain ⟨k, rfl⟩ : ∃ q, k = q + 1 := ⟨k - 1, by omega⟩
 have hj : r07_Nucleus.f (k + 1) l a = r07_Nucleus.j0 (k + 1) l a (decide (a < 1 ∨ a > 65536)) := by
  rw [r07_Nucleus.f]
  by_cases c : a < 1
  ·rw [if_pos c, decide_eq_true (Or.inl c)]
  ·rw [if_neg c]
   congr 1
   by_cases c2 : a > 65536
   ·rw [decide_eq_true c2, decide_eq_true (Or.inr c2)]
   ·rw [decide_eq_false c2, decide_eq_false (by omega)]
 rw [hj, r07_Nucleus.j0, nucL]
 by_cases c : a < 1 ∨ a > 65536
 ·rw [decide_eq_true c, if_pos rfl, if_pos c]
 ·rw [decide_eq_false c, if_neg (by decide), if_neg c, ref_sum l k (by omega), Option.bind_some]
  by_cases c2 : (sumL l).2 = 0
  ·obtain ⟨h1, h2, h3, h4⟩ := sum_all l c2
   rw [if_pos c2, if_neg (show ¬ (sumL l).2 ≠ 0 by rw [c2]; simp), hK _ (by omega), Option.bind_some]
   exact ref_nuc_l h1 h2 (by omega) h3 l.length 0 0 rfl (Nat.zero_le _) (Int.le_refl _) (by omega) h4 k (by omega)
  ·rw [if_neg c2, if_pos c2]
end Go.Proofs.Ythmckhfjaleomaa.Pure
