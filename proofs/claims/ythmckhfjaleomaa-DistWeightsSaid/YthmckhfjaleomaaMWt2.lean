/- Several texts in one: what this claim comes to. -/
import Derived.Test.YthmckhfjaleomaaMSort
import Derived.Test.YthmckhfjaleomaaT4
import Derived.Test.YthmckhfjaleomaaT11
import Derived.Test.YthmckhfjaleomaaT12
import Derived.Test.YthmckhfjaleomaaT7
import Derived.Test.YthmckhfjaleomaaT8
import Derived.Test.YthmckhfjaleomaaT10
import Derived.Test.YthmckhfjaleomaaT13
import Derived.Test.YthmckhfjaleomaaT6
import Derived.Test.YthmckhfjaleomaaT14


namespace Go.Proofs.Ythmckhfjaleomaa.St
set_option linter.unusedVariables false
set_option linter.unusedSimpArgs false
open Go.Sort
def placesN (cf : Nat → Nat → Int) : Nat → List Nat
 | 0 => []
 | m + 1 => (stable (fun x y : Fin (m + 1) => decide (cf x.val y.val < 0)) (Array.ofFn fun i : Fin (m + 1) => i)).toList.map fun x => x.val
theorem places_eq (cf : Nat → Nat → Int) (n : Nat) : places cf n = (placesN cf n).map fun x : Nat => (x : Int) := by
 cases n with
 | zero => rfl
 | succ m => simp [places, placesN]
theorem placesN_spec (cf : Nat → Nat → Int) (n : Nat) (T : Nat → Nat → Prop) (hi : ∀ x, ¬ T x x) (ht : ∀ x y z, T x y → T y z → T x z)
  (tells : ∀ i j, i < j → j < n → (cf j i < 0 → T j i) ∧ (¬ cf j i < 0 → T i j)) : (placesN cf n).Perm (List.range n) ∧ (placesN cf n).Pairwise T := by
 cases n with
 | zero => exact ⟨List.Perm.refl _, List.Pairwise.nil⟩
 | succ m =>
  have hsz : (Array.ofFn fun i : Fin (m + 1) => i).size = m + 1 := by simp
  have hat : ∀ j (h : j < m + 1), (Array.ofFn fun i : Fin (m + 1) => i)[j]! = ⟨j, h⟩ := by
   intro j h
   rw [getElem!_pos _ j (by rw [hsz]; exact h)]
   simp
  obtain ⟨⟨p1, _, p2⟩, up⟩ := stable_spec (lt := fun x y : Fin (m + 1) => decide (cf x.val y.val < 0)) (T := fun x y : Fin (m + 1) => T x.val y.val) ⟨fun x => hi x.val, fun x y z => ht x.val y.val z.val⟩
   (Array.ofFn fun i : Fin (m + 1) => i) (by
    intro i j hij hj
    rw [hsz] at hj
    rw [hat i (by omega), hat j hj]
    obtain ⟨h1, h2⟩ := tells i j hij hj
    exact ⟨fun h => h1 (of_decide_eq_true h), fun h => h2 (of_decide_eq_false h)⟩)
  show ((stable (fun x y : Fin (m + 1) => decide (cf x.val y.val < 0)) (Array.ofFn fun i : Fin (m + 1) => i)).toList.map fun x => x.val).Perm _ ∧ ((stable (fun x y : Fin (m + 1) => decide (cf x.val y.val < 0)) (Array.ofFn fun i : Fin (m + 1) => i)).toList.map fun x => x.val).Pairwise T
  generalize stable (fun x y : Fin (m + 1) => decide (cf x.val y.val < 0)) (Array.ofFn fun i : Fin (m + 1) => i) = dk at p1 p2 up
  rw [hsz] at p1 p2 up
  have e0 : ∀ (d : Array (Fin (m + 1))), d.size = m + 1 → (d.extract 0 (m + 1)).toList = d.toList := by
   intro d h
   have : d.extract 0 d.size = d := by simp
   rw [h] at this
   rw [this]
  have e1 := e0 dk p1
  have e2 := e0 _ hsz
  rw [e1, e2] at p2
  constructor
  ·have h := p2.map (fun x : Fin (m + 1) => x.val)
   have e : ((Array.ofFn fun i : Fin (m + 1) => i).toList.map fun x : Fin (m + 1) => x.val) = List.range (m + 1) := by
    apply List.ext_getElem
    ·simp
    ·intro j h1 h2
     simp only [List.getElem_map, Array.getElem_toList, Array.getElem_ofFn, List.getElem_range]
   rw [e] at h
   exact h
  ·rw [List.pairwise_map, List.pairwise_iff_getElem]
   intro i j hi' hj' hij
   have h := up i j (Nat.zero_le _) hij (by simpa [p1] using hj')
   rw [getElem!_pos dk i (by simpa using hi'), getElem!_pos dk j (by simpa using hj')] at h
   simpa using h
def Ahead (l : List Int) (a b : Nat) : Prop := l.getD b 0 < l.getD a 0 ∨ (l.getD a 0 = l.getD b 0 ∧ a < b)
theorem Ahead.irrefl (l : List Int) (x : Nat) : ¬ Ahead l x x := by unfold Ahead; omega
theorem Ahead.trans (l : List Int) (x y z : Nat) : Ahead l x y → Ahead l y z → Ahead l x z := by unfold Ahead; omega
theorem Ahead.total (l : List Int) {x y : Nat} (h : x ≠ y) : Ahead l x y ∨ Ahead l y x := by unfold Ahead; omega
def orderN (l : List Int) : List Nat := placesN (fun x y => cmpI (l.getD y 0) (l.getD x 0)) l.length
theorem orderL_eq (l : List Int) : orderL l = (orderN l).map fun x : Nat => (x : Int) := places_eq _ _
theorem orderN_spec (l : List Int) : (orderN l).Perm (List.range l.length) ∧ (orderN l).Pairwise (Ahead l) :=
 placesN_spec _ _ _ (Ahead.irrefl l) (Ahead.trans l) (by
  intro i j hij hj
  constructor
  ·intro h
   unfold cmpI at h
   unfold Ahead
   split at h
   ·omega
   ·split at h <;> omega
  ·intro h
   unfold cmpI at h
   unfold Ahead
   split at h
   ·omega
   ·split at h <;> omega)
theorem order_unique (l : List Int) (o o' : List Nat) (hp : o.Perm o') (h : o.Pairwise (Ahead l)) (h' : o'.Pairwise (Ahead l)) : o = o' :=
 List.Perm.eq_of_pairwise (le := Ahead l) (fun a _ _ _ h1 h2 => (Ahead.irrefl l a (Ahead.trans l _ _ _ h1 h2)).elim) h h' hp
theorem orderN_length (l : List Int) : (orderN l).length = l.length := by rw [(orderN_spec l).1.length_eq, List.length_range]
theorem orderN_mem (l : List Int) (x : Nat) : x ∈ orderN l ↔ x < l.length := by rw [(orderN_spec l).1.mem_iff, List.mem_range]
end Go.Proofs.Ythmckhfjaleomaa.St
namespace Go.Proofs.Ythmckhfjaleomaa.St
set_option linter.unusedVariables false
set_option linter.unusedSimpArgs false
def sumFrom : List Int → Int → Int × Int
 | [], acc => if acc = 0 then (0, 71) else (acc, 0)
 | x :: r, acc => if x < 0 then (0, 70) else if x > 1073741824 then (0, 70) else sumFrom r (acc + x)
def sumL (l : List Int) : Int × Int := if 4096 < l.length then (0, 70) else sumFrom l 0
def bump (xs : List Int) (is : List Int) : List Int := is.foldl (fun xs i => xs.set i.toNat (xs.getD i.toNat 0 + 1)) xs
def quos (l : List Int) (total all : Int) : List Int := l.map fun x => Int.tdiv (x * total) all
def rests (l : List Int) (total all : Int) : List Int := l.map fun x => Int.tmod (x * total) all
def missing (l : List Int) (total all : Int) : Int := total - (quos l total all).sum
def shareL (l : List Int) (total : Int) : List Int × Int :=
 if total < 1 ∨ total > 4294967296 then ([], 1) else if (sumL l).2 ≠ 0 then ([], (sumL l).2) else
  (bump (quos l total (sumL l).1) ((orderL (rests l total (sumL l).1)).take (missing l total (sumL l).1).toNat), 0)
theorem sumFrom_ok : ∀ (l : List Int) (acc : Int), 0 ≤ acc → (sumFrom l acc).2 = 0 → (∀ x ∈ l, 0 ≤ x ∧ x ≤ 1073741824) ∧ (sumFrom l acc).1 = acc + l.sum ∧ 0 < (sumFrom l acc).1
 | [], acc, ha, h => by
  unfold sumFrom at h ⊢
  split at h
  ·cases h
  ·rename_i c
   rw [if_neg c]
   exact ⟨by simp, by simp, by simp; omega⟩
 | x :: r, acc, ha, h => by
  unfold sumFrom at h ⊢
  split at h
  ·cases h
  ·split at h
   ·cases h
   ·rename_i c1 c2
    rw [if_neg c1, if_neg c2]
    obtain ⟨h1, h2, h3⟩ := sumFrom_ok r (acc + x) (by omega) h
    refine ⟨?_, by rw [h2, List.sum_cons]; omega, h3⟩
    intro y hy
    rcases List.mem_cons.1 hy with rfl | hy
    ·omega
    ·exact h1 y hy
theorem sumL_ok {l : List Int} (h : (sumL l).2 = 0) : l.length ≤ 4096 ∧ (∀ x ∈ l, 0 ≤ x ∧ x ≤ 1073741824) ∧ (sumL l).1 = l.sum ∧ 0 < (sumL l).1 := by
 unfold sumL at h ⊢
 split at h
 ·cases h
 ·rename_i c
  rw [if_neg c]
  obtain ⟨h1, h2, h3⟩ := sumFrom_ok l 0 (Int.le_refl _) h
  exact ⟨by omega, h1, by rw [h2]; omega, h3⟩
theorem sum_nonneg : ∀ {l : List Int}, (∀ x ∈ l, 0 ≤ x) → 0 ≤ l.sum
 | [], _ => by simp
 | x :: r, h => by
  rw [List.sum_cons]
  have := sum_nonneg (l := r) (fun y hy => h y (List.mem_cons_of_mem _ hy))
  have := h x List.mem_cons_self
  omega
theorem sum_le (b : Int) (hb : 0 ≤ b) : ∀ {l : List Int}, (∀ x ∈ l, x ≤ b) → l.sum ≤ b * l.length
 | [], _ => by simp
 | x :: r, h => by
  rw [List.sum_cons, List.length_cons]
  have h1 := sum_le b hb (l := r) (fun y hy => h y (List.mem_cons_of_mem _ hy))
  have h2 := h x List.mem_cons_self
  rw [Int.natCast_add, Int.mul_add]
  simp
  omega
theorem sum_mul (t : Int) : ∀ (l : List Int), (l.map fun x => x * t).sum = l.sum * t
 | [] => by simp
 | x :: r => by rw [List.map_cons, List.sum_cons, List.sum_cons, sum_mul t r, Int.add_mul]
theorem sum_quo_rest (t all : Int) : ∀ (l : List Int), (l.map fun x => x * t).sum = all * (quos l t all).sum + (rests l t all).sum
 | [] => by simp [quos, rests]
 | x :: r => by
  have h := sum_quo_rest t all r
  have e := Int.mul_tdiv_add_tmod (x * t) all
  unfold quos rests at h ⊢
  rw [List.map_cons, List.map_cons, List.map_cons, List.sum_cons, List.sum_cons, List.sum_cons, h, Int.mul_add]
  omega
structure ShareOk (l : List Int) (total all : Int) : Prop where
 len : l.length ≤ 4096
 pos : 0 < all
 le : all ≤ 4398046511104
 each : ∀ x ∈ l, 0 ≤ x ∧ x ≤ 1073741824 ∧ x ≤ all
 sum : all = l.sum
 t1 : 1 ≤ total
 t2 : total ≤ 4294967296
theorem mem_le_sum : ∀ {l : List Int}, (∀ x ∈ l, 0 ≤ x) → ∀ x ∈ l, x ≤ l.sum
 | [], _, x, hx => by cases hx
 | y :: r, h, x, hx => by
  rw [List.sum_cons]
  have h1 := sum_nonneg (l := r) (fun z hz => h z (List.mem_cons_of_mem _ hz))
  have h0 := h y List.mem_cons_self
  rcases List.mem_cons.1 hx with rfl | hx
  ·omega
  ·have := mem_le_sum (l := r) (fun z hz => h z (List.mem_cons_of_mem _ hz)) x hx
   omega
theorem shareOk {l : List Int} {total : Int} (h : (sumL l).2 = 0) (h1 : ¬ (total < 1 ∨ total > 4294967296)) : ShareOk l total (sumL l).1 := by
 obtain ⟨a, b, c, d⟩ := sumL_ok h
 have hs := sum_le 1073741824 (by omega) (l := l) (fun x hx => (b x hx).2)
 refine ⟨a, d, by omega, fun x hx => ⟨(b x hx).1, (b x hx).2, ?_⟩, c, by omega, by omega⟩
 rw [c]
 exact mem_le_sum (fun y hy => (b y hy).1) x hx
theorem ShareOk.quo {l : List Int} {t all : Int} (h : ShareOk l t all) (x : Int) (hx : x ∈ l) : 0 ≤ x * t ∧ x * t ≤ 4611686018427387904 ∧ 0 ≤ Int.tdiv (x * t) all ∧ Int.tdiv (x * t) all ≤ t ∧ 0 ≤ Int.tmod (x * t) all ∧ Int.tmod (x * t) all < all := by
 obtain ⟨h1, h2, h3⟩ := h.each x hx
 have ht1 := h.t1
 have ht2 := h.t2
 have hp := h.pos
 have a1 : 0 ≤ x * t := Int.mul_nonneg h1 (by omega)
 have a2 : x * t ≤ 1073741824 * 4294967296 := Int.mul_le_mul h2 ht2 (by omega) (by omega)
 refine ⟨a1, by omega, Int.tdiv_nonneg a1 (by omega), ?_, Int.tmod_nonneg _ a1, ?_⟩
 ·rw [Int.tdiv_eq_ediv_of_nonneg a1]
  have a3 : x * t ≤ all * t := Int.mul_le_mul_of_nonneg_right h3 (by omega)
  have := Int.ediv_le_ediv hp a3
  rw [Int.mul_comm all t, Int.mul_ediv_cancel _ (by omega)] at this
  exact this
 ·have := Int.tmod_lt_of_pos (x * t) hp
  exact this
theorem ShareOk.miss {l : List Int} {t all : Int} (h : ShareOk l t all) : all * missing l t all = (rests l t all).sum ∧ 0 ≤ missing l t all ∧ missing l t all ≤ l.length ∧ (0 < l.length → missing l t all < l.length) := by
 have hp := h.pos
 have e1 := sum_quo_rest t all l
 rw [sum_mul, ← h.sum] at e1
 have e2 : all * missing l t all = (rests l t all).sum := by
  unfold missing
  rw [Int.mul_sub]
  omega
 have n1 : 0 ≤ (rests l t all).sum := sum_nonneg (fun x hx => by
  unfold rests at hx
  obtain ⟨y, hy, rfl⟩ := List.mem_map.1 hx
  exact (h.quo y hy).2.2.2.2.1)
 have n2 : (rests l t all).sum ≤ (all - 1) * l.length := by
  have := sum_le (all - 1) (by omega) (l := rests l t all) (fun x hx => by
   unfold rests at hx
   obtain ⟨y, hy, rfl⟩ := List.mem_map.1 hx
   have := (h.quo y hy).2.2.2.2.2
   omega)
  simpa [rests] using this
 have n3 : (all - 1) * (l.length : Int) = all * l.length - l.length := by rw [Int.sub_mul, Int.one_mul]
 rw [← e2] at n1 n2
 have m0 : 0 ≤ missing l t all := by
  rcases Int.lt_or_le (missing l t all) 0 with c | c
  ·have := Int.mul_neg_of_pos_of_neg hp c
   omega
  ·exact c
 have m1 : missing l t all ≤ l.length := by
  rcases Int.lt_or_le (l.length : Int) (missing l t all) with c | c
  ·have := Int.mul_lt_mul_of_pos_left c hp
   omega
  ·exact c
 refine ⟨e2, m0, m1, fun hl => ?_⟩
 rcases Int.lt_or_le (missing l t all) (l.length : Int) with c | c
 ·exact c
 ·have := Int.mul_le_mul_of_nonneg_left c (Int.le_of_lt hp)
  omega
end Go.Proofs.Ythmckhfjaleomaa.St
namespace Go.Proofs.Ythmckhfjaleomaa.Pure
set_option linter.unusedSimpArgs false
set_option linter.unusedVariables false
open Go.RowKit Go.Proofs.YthmckhfjaleomaaW.PrintWords Go.Proofs.YthmckhfjaleomaaW.PrintLast Go.Proofs.YthmckhfjaleomaaW.PrintMore Go.Proofs.Ythmckhfjaleomaa.T Go.Proofs.Ythmckhfjaleomaa.St
theorem w64 {x : Int} (h1 : -9223372036854775808 ≤ x) (h2 : x < 9223372036854775808) : wrap64 x = x := by unfold wrap64; omega
theorem rd_nat (l : List Int) (i : Nat) : rd l (i : Int) = l.getD i 0 := by unfold rd; rw [Int.toNat_natCast]
theorem drop_get (l : List Int) (i : Nat) (h : i < l.length) : l.drop i = l.getD i 0 :: l.drop (i + 1) := by
 rw [List.drop_eq_getElem_cons h, List.getD_eq_getElem?_getD, List.getElem?_eq_getElem h]; rfl
theorem own_sum_l (l : List Int) : ∀ (d i : Nat) (acc : Int), l.length - i = d → i ≤ l.length → l.length ≤ 4096 → 0 ≤ acc → acc ≤ 1073741824 * (i : Int) → ∀ k, d + 1 ≤ k →
  rank_sum.l0 k acc l (l.length : Int) (i : Int) = some (sumFrom (l.drop i) acc)
 | d, i, acc, hd, hi, hl, h0, h1, 0, hk => by omega
 | d, i, acc, hd, hi, hl, h0, h1, k + 1, hk => by
  rw [rank_sum.l0]
  by_cases c : i < l.length
  ·have cz : (i : Int) < (l.length : Int) := by omega
   rw [if_pos cz, if_pos (by omega), if_pos cz, rd_nat, drop_get l i c, sumFrom]
   by_cases c1 : l.getD i 0 < 0
   ·rw [if_pos c1, if_pos c1]
   ·rw [if_neg c1, if_neg c1]
    by_cases c2 : l.getD i 0 > 1073741824
    ·rw [if_pos c2, if_pos c2]
    ·rw [if_neg c2, if_neg c2, w64 (by omega) (by omega), w64 (by omega) (by omega)]
     exact own_sum_l l (l.length - (i + 1)) (i + 1) _ rfl (by omega) hl (by omega) (by omega) k (by omega)
  ·rw [if_neg (by omega), List.drop_eq_nil_of_le (by omega), sumFrom]
   by_cases c1 : acc = 0
   ·rw [if_pos c1, if_pos c1]
   ·rw [if_neg c1, if_neg c1]
theorem own_sum (l : List Int) (k : Nat) (hk : 5000 ≤ k) : rank_sum.f k l = some (sumL l) := by
 rw [rank_sum.f, sumL]
 by_cases c : 4096 < l.length
 ·rw [if_pos c, if_pos (by omega)]
 ·rw [if_neg c, if_neg (by omega)]
  exact own_sum_l l _ 0 0 rfl (Nat.zero_le _) (by omega) (Int.le_refl _) (by omega) k (by omega)
theorem ref_sum_l (l : List Int) : ∀ (d i : Nat) (acc : Int), l.length - i = d → i ≤ l.length → l.length ≤ 4096 → 0 ≤ acc → acc ≤ 1073741824 * (i : Int) → ∀ k, d + 1 ≤ k →
  r07_sum.l0 k l acc (i : Int) = some (sumFrom (l.drop i) acc)
 | d, i, acc, hd, hi, hl, h0, h1, 0, hk => by omega
 | d, i, acc, hd, hi, hl, h0, h1, k + 1, hk => by
  rw [r07_sum.l0]
  by_cases c : i < l.length
  ·have cz : (i : Int) < (l.length : Int) := by omega
   rw [if_pos cz, if_pos (by omega), rd_nat, drop_get l i c, sumFrom]
   by_cases c1 : l.getD i 0 < 0
   ·rw [if_pos c1, if_pos c1]
   ·rw [if_neg c1, if_neg c1]
    by_cases c2 : l.getD i 0 > 1073741824
    ·rw [if_pos c2, if_pos c2]
    ·rw [if_neg c2, if_neg c2, w64 (by omega) (by omega), w64 (by omega) (by omega)]
     exact ref_sum_l l (l.length - (i + 1)) (i + 1) _ rfl (by omega) hl (by omega) (by omega) k (by omega)
  ·rw [if_neg (by omega), List.drop_eq_nil_of_le (by omega), sumFrom]
   by_cases c1 : acc = 0
   ·rw [if_pos c1, if_pos c1]
   ·rw [if_neg c1, if_neg c1]
theorem ref_sum (l : List Int) (k : Nat) (hk : 5000 ≤ k) : r07_sum.f k l = some (sumL l) := by
 rw [r07_sum.f, sumL]
 by_cases c : 4096 < l.length
 ·rw [if_pos c, if_pos (by omega)]
 ·rw [if_neg c, if_neg (by omega)]
  exact ref_sum_l l _ 0 0 rfl (Nat.zero_le _) (by omega) (Int.le_refl _) (by omega) k (by omega)
theorem own_order (l : List Int) (h : l.length ≤ 17592186044416) : rank_Order.f l = some (orderL l) := by rw [rank_Order.f, if_pos h]
def find (l : List Int) (o : List Int) (i : Nat) : Nat → Nat
 | 0 => 0
 | p + 1 => if l.getD (o.getD p 0).toNat 0 < l.getD i 0 then find l o i p else p + 1
theorem find_le (l o : List Int) (i : Nat) : ∀ p, find l o i p ≤ p
 | 0 => Nat.le_refl _
 | p + 1 => by
  rw [find]
  split
  ·have := find_le l o i p; omega
  ·exact Nat.le_refl _
theorem find_less (l o : List Int) (i : Nat) : ∀ p q, find l o i p ≤ q → q < p → l.getD (o.getD q 0).toNat 0 < l.getD i 0
 | 0, q, h1, h2 => by omega
 | p + 1, q, h1, h2 => by
  rw [find] at h1
  split at h1
  ·rename_i c
   by_cases e : q = p
   ·subst e; exact c
   ·exact find_less l o i p q h1 (by omega)
  ·omega
theorem find_ge (l o : List Int) (i : Nat) : ∀ p, 0 < find l o i p → ¬ l.getD (o.getD (find l o i p - 1) 0).toNat 0 < l.getD i 0
 | 0, h => by rw [find] at h; omega
 | p + 1, h => by
  rw [find] at h ⊢
  split at h
  ·rename_i c
   rw [if_pos c]
   exact find_ge l o i p h
  ·rename_i c
   rw [if_neg c]
   simpa using c
theorem ref_l1 (l o : List Int) (i : Nat) (hi : i < l.length) (hl : l.length ≤ 17592186044416) (ho : ∀ q, q < o.length → 0 ≤ o.getD q 0 ∧ o.getD q 0 < (l.length : Int)) : ∀ (p k : Nat), p ≤ o.length → o.length ≤ 17592186044416 →
  r07_Order.l1 (k + (p - find l o i p) + 1) l o (i : Int) (p : Int) = r07_Order.j2 k l o (i : Int) (find l o i p : Int)
 | 0, k, hp, hol => by
  rw [find]
  show r07_Order.l1 (k + 1) l o (i : Int) 0 = _
  rw [r07_Order.l1, if_neg (by omega)]
  rfl
 | p + 1, k, hp, hol => by
  rw [r07_Order.l1, if_pos (by omega), w64 (by omega) (by omega), show ((p + 1 : Nat) : Int) - 1 = (p : Int) by omega, if_pos (by omega), if_pos (by omega), rd_nat, rd_nat]
  obtain ⟨h1, h2⟩ := ho p (by omega)
  rw [if_pos h1, if_pos h2, if_pos (by omega), if_pos (by omega), show rd l (o.getD p 0) = l.getD (o.getD p 0).toNat 0 from rfl, find]
  by_cases c : l.getD (o.getD p 0).toNat 0 < l.getD i 0
  ·rw [if_pos c, if_pos c]
   have hle := find_le l o i p
   have e : k + (p + 1 - find l o i p) = k + (p - find l o i p) + 1 := by omega
   rw [e]
   exact ref_l1 l o i hi hl ho p k (by omega) hol
  ·rw [if_neg c, if_neg c]
   have e : k + (p + 1 - (p + 1)) = k := by omega
   rw [e]
theorem ref_l2 (l : List Int) (i p : Nat) (hb : p ≤ 17592186044416) : ∀ (t k : Nat) (x : List Int), p + t < x.length → x.length ≤ 17592186044417 → i ≤ 17592186044416 →
  ∃ y : List Int, (∀ j, y[j]? = if j < p then x[j]? else if j = p then some (i : Int) else if j ≤ p + t then x[j - 1]? else x[j]?) ∧
   r07_Order.l2 (k + t + 1) l x (i : Int) (p : Int) ((p + t : Nat) : Int) = r07_Order.l0 k l y ((i + 1 : Nat) : Int)
 | 0, k, x, hp, hx, hi => by
  refine ⟨x.set p (i : Int), fun j => ?_, ?_⟩
  ·rw [List.getElem?_set]
   by_cases c : p = j
   ·subst c; rw [if_pos rfl, if_pos (by omega), if_neg (by omega), if_pos rfl]
   ·rw [if_neg c]
    by_cases c2 : j < p
    ·rw [if_pos c2]
    ·rw [if_neg c2, if_neg (by omega), if_neg (by omega)]
  ·rw [r07_Order.l2, if_neg (by omega), if_pos (by omega), if_pos (by omega), w64 (by omega) (by omega), Int.toNat_natCast]
   rw [show ((i + 1 : Nat) : Int) = (i : Int) + 1 by omega]
 | t + 1, k, x, hp, hx, hi => by
  obtain ⟨y, hy, he⟩ := ref_l2 l i p hb t k (x.set (p + t + 1) (x.getD (p + t) 0)) (by rw [List.length_set]; omega) (by rw [List.length_set]; omega) hi
  refine ⟨y, fun j => ?_, ?_⟩
  ·rw [hy j, List.getElem?_set, List.getElem?_set]
   by_cases c1 : j < p
   ·rw [if_pos c1, if_pos c1, if_neg (by omega)]
   ·rw [if_neg c1, if_neg c1]
    by_cases c2 : j = p
    ·rw [if_pos c2, if_pos c2]
    ·rw [if_neg c2, if_neg c2]
     by_cases c3 : j ≤ p + t
     ·rw [if_pos c3, if_neg (show ¬ p + t + 1 = j - 1 by omega), if_pos (show j ≤ p + (t + 1) by omega)]
     ·rw [if_neg c3]
      by_cases c4 : p + t + 1 = j
      ·subst c4
       rw [if_pos rfl, if_pos (show p + t + 1 < x.length by omega), if_pos (show p + t + 1 ≤ p + (t + 1) by omega), List.getD_eq_getElem?_getD]
       show some ((x[p + t]?).getD 0) = x[p + t]?
       rw [List.getElem?_eq_getElem (by omega)]
       rfl
      ·rw [if_neg c4, if_neg (show ¬ j ≤ p + (t + 1) by omega)]
  ·rw [r07_Order.l2, if_pos (by omega), w64 (by omega) (by omega), show ((p + (t + 1) : Nat) : Int) - 1 = ((p + t : Nat) : Int) by omega, if_pos (by omega), if_pos (by omega), if_pos (by omega), if_pos (by omega), rd_nat, Int.toNat_natCast, show p + (t + 1) = p + t + 1 by omega, show k + (t + 1) = k + t + 1 by omega]
   exact he
def ins (o : List Nat) (p i : Nat) : List Nat := o.take p ++ i :: o.drop p
theorem ref_step (l : List Int) (o : List Nat) (i : Nat) (hi : i < l.length) (hl : l.length < 17592186044416) (ho : ∀ x ∈ o, x < i) (hol : o.length = i) (k : Nat) :
  ∃ c p, p ≤ i ∧ p = find l (o.map fun x : Nat => (x : Int)) i i ∧ r07_Order.l0 (k + c) l (o.map fun x : Nat => (x : Int)) (i : Int) = r07_Order.l0 k l ((ins o p i).map fun x : Nat => (x : Int)) ((i + 1 : Nat) : Int) := by
 have hm : (o.map fun x : Nat => (x : Int)).length = i := by rw [List.length_map]; exact hol
 have hget : ∀ q, q < o.length → (o.map fun x : Nat => (x : Int)).getD q 0 = ((o.getD q 0 : Nat) : Int) := by
  intro q hq
  simp [List.getD_eq_getElem?_getD, List.getElem?_eq_getElem hq]
 have hb : ∀ q, q < (o.map fun x : Nat => (x : Int)).length → 0 ≤ (o.map fun x : Nat => (x : Int)).getD q 0 ∧ (o.map fun x : Nat => (x : Int)).getD q 0 < (l.length : Int) := by
  intro q hq
  rw [hm] at hq
  rw [hget q (by omega)]
  have : o.getD q 0 ∈ o := by
   rw [List.getD_eq_getElem?_getD, List.getElem?_eq_getElem (by omega)]
   exact List.getElem_mem _
  have := ho _ this
  omega
 have hle := find_le l (o.map fun x : Nat => (x : Int)) i i
 obtain ⟨p, hp⟩ : ∃ p, p = find l (o.map fun x : Nat => (x : Int)) i i := ⟨_, rfl⟩
 rw [← hp] at hle
 obtain ⟨y, hy, he⟩ := ref_l2 l i p (by omega) (i - p) k ((o.map fun x : Nat => (x : Int)) ++ [0]) (by rw [List.length_append, hm, List.length_singleton]; omega) (by rw [List.length_append, hm, List.length_singleton]; omega) (by omega)
 have h1 := ref_l1 l (o.map fun x : Nat => (x : Int)) i hi (by omega) hb i (k + (i - p) + 1 + 1) (by rw [hm]; exact Nat.le_refl _) (by rw [hm]; omega)
 rw [← hp] at h1
 have hyy : y = (ins o p i).map fun x : Nat => (x : Int) := by
  apply List.ext_getElem?
  intro j
  rw [hy j, show p + (i - p) = i by omega, ins, List.map_append, List.map_cons, List.map_take, List.map_drop]
  generalize hom : (o.map fun x : Nat => (x : Int)) = om at hm
  have m1 : (om.take p).length = p := by rw [List.length_take, hm]; omega
  by_cases c1 : j < p
  ·rw [if_pos c1, List.getElem?_append_left (l₁ := om) (by omega), List.getElem?_append_left (l₁ := om.take p) (by omega), List.getElem?_take, if_pos c1]
  ·rw [if_neg c1, List.getElem?_append_right (l₁ := om.take p) (by omega), m1]
   by_cases c2 : j = p
   ·subst c2; rw [if_pos rfl, Nat.sub_self]; rfl
   ·rw [if_neg c2]
    obtain ⟨q, rfl⟩ : ∃ q, j = q + p + 1 := ⟨j - p - 1, by omega⟩
    rw [show q + p + 1 - p = q + 1 by omega, List.getElem?_cons_succ, List.getElem?_drop, show p + q = q + p by omega]
    by_cases c3 : q + p + 1 ≤ i
    ·rw [if_pos c3, show q + p + 1 - 1 = q + p by omega, List.getElem?_append_left (l₁ := om) (by omega)]
    ·rw [if_neg c3, List.getElem?_append_right (l₁ := om) (by omega), hm, List.getElem?_eq_none (l := om) (by omega)]
     rw [List.getElem?_eq_none (by simp; omega)]
 refine ⟨(i - p) + 1 + 1 + (i - p) + 1 + 1, p, hle, hp, ?_⟩
 rw [show k + ((i - p) + 1 + 1 + (i - p) + 1 + 1) = (k + (i - p) + 1 + 1 + (i - p) + 1) + 1 by omega, r07_Order.l0, if_pos (by omega), hm, h1, r07_Order.j2, hm, if_pos (by omega), Option.bind_some]
 have e2 : wrap64 ((((o.map fun x : Nat => (x : Int)) ++ [0]).length : Int) - 1) = ((p + (i - p) : Nat) : Int) := by
  rw [List.length_append, hm, List.length_singleton, w64 (by omega) (by omega)]
  omega
 rw [e2, he, hyy]
end Go.Proofs.Ythmckhfjaleomaa.Pure
namespace Go.Proofs.Ythmckhfjaleomaa.Pure
set_option linter.unusedSimpArgs false
set_option linter.unusedVariables false
set_option linter.unusedSectionVars false
open Go.RowKit Go.Proofs.YthmckhfjaleomaaW.PrintWords Go.Proofs.YthmckhfjaleomaaW.PrintLast Go.Proofs.YthmckhfjaleomaaW.PrintMore Go.Proofs.Ythmckhfjaleomaa.T Go.Proofs.Ythmckhfjaleomaa.St
theorem up_of {α : Type} {f : Nat → Option α} (hm : ∀ k, LeO (f k) (f (k + 1))) {K : Nat} {r : α} (h : f K = some r) : ∀ k, K ≤ k → f k = some r := by
 intro k hk
 obtain ⟨d, rfl⟩ : ∃ d, k = K + d := ⟨k - K, by omega⟩
 clear hk
 induction d with
 | zero => exact h
 | succ d ih => exact hm (K + d) r ih
theorem ins_ok (l : List Int) (o : List Nat) (i p : Nat) (hp : p ≤ i) (hpf : p = find l (o.map fun x : Nat => (x : Int)) i i) (h1 : o.Perm (List.range i)) (h2 : o.Pairwise (Ahead l)) :
  (ins o p i).Perm (List.range (i + 1)) ∧ (ins o p i).Pairwise (Ahead l) := by
 have hol : o.length = i := by rw [h1.length_eq, List.length_range]
 have hlt : ∀ x ∈ o, x < i := fun x hx => List.mem_range.1 (h1.mem_iff.1 hx)
 have hget : ∀ q (hq : q < o.length), ((o.map fun x : Nat => (x : Int)).getD q 0).toNat = o[q] := by
  intro q hq
  simp [List.getD_eq_getElem?_getD, List.getElem?_eq_getElem hq]
 constructor
 ·unfold ins
  have e1 : (o.take p ++ i :: o.drop p).Perm (i :: (o.take p ++ o.drop p)) := List.perm_middle
  rw [List.take_append_drop] at e1
  refine e1.trans ?_
  rw [List.range_succ]
  exact ((h1.cons i).trans (List.perm_append_singleton i (List.range i)).symm)
 ·unfold ins
  have h3 := h2
  rw [← List.take_append_drop p o, List.pairwise_append] at h3
  rw [List.pairwise_append, List.pairwise_cons]
  refine ⟨h3.1, ⟨?_, h3.2.1⟩, ?_⟩
  ·intro b hb
   obtain ⟨q, hq, rfl⟩ := List.getElem_of_mem hb
   rw [List.length_drop] at hq
   rw [List.getElem_drop]
   have := find_less l (o.map fun x : Nat => (x : Int)) i i (p + q) (by omega) (by omega)
   rw [hget (p + q) (by omega)] at this
   exact .inl this
  ·intro a ha b hb
   rcases List.mem_cons.1 hb with rfl | hb
   ·obtain ⟨q, hq, rfl⟩ := List.getElem_of_mem ha
    rw [List.length_take] at hq
    rw [List.getElem_take]
    have hpp : 0 < p := by omega
    have hge := find_ge l (o.map fun x : Nat => (x : Int)) b b (by omega)
    rw [← hpf, hget (p - 1) (by omega)] at hge
    have hai := hlt o[q] (List.getElem_mem _)
    by_cases e : q = p - 1
    ·subst e
     unfold Ahead
     omega
    ·have := (List.pairwise_iff_getElem.1 h2) q (p - 1) (by omega) (by omega) (by omega)
     unfold Ahead at this ⊢
     omega
   ·exact h3.2.2 a ha b hb
theorem ref_order_l (l : List Int) (hl : l.length < 17592186044416) : ∀ (d i : Nat) (o : List Nat), l.length - i = d → i ≤ l.length → o.Perm (List.range i) → o.Pairwise (Ahead l) →
  ∃ K, r07_Order.l0 K l (o.map fun x : Nat => (x : Int)) (i : Int) = some (orderL l)
 | 0, i, o, hd, hi, h1, h2 => by
  obtain rfl : i = l.length := by omega
  have e : o = orderN l := order_unique l o _ (h1.trans (orderN_spec l).1.symm) h2 (orderN_spec l).2
  refine ⟨1, ?_⟩
  rw [r07_Order.l0, if_neg (by omega), orderL_eq, e]
 | d + 1, i, o, hd, hi, h1, h2 => by
  have hol : o.length = i := by rw [h1.length_eq, List.length_range]
  have hlt : ∀ x ∈ o, x < i := fun x hx => List.mem_range.1 (h1.mem_iff.1 hx)
  obtain ⟨c0, p, hp, hpf, _⟩ := ref_step l o i (by omega) hl hlt hol 0
  obtain ⟨q1, q2⟩ := ins_ok l o i p hp hpf h1 h2
  obtain ⟨K, hK⟩ := ref_order_l l hl d (i + 1) (ins o p i) (by omega) (by omega) q1 q2
  obtain ⟨c, p', hp', hpf', he⟩ := ref_step l o i (by omega) hl hlt hol K
  rw [← hpf] at hpf'
  subst hpf'
  exact ⟨K + c, by rw [he]; exact hK⟩
theorem ref_order (l : List Int) (hl : l.length < 17592186044416) : ∃ K, ∀ k, K ≤ k → r07_Order.f k l = some (orderL l) := by
 obtain ⟨K, h⟩ := ref_order_l l hl _ 0 [] rfl (Nat.zero_le _) (List.Perm.refl _) List.Pairwise.nil
 exact ⟨K, up_of (f := fun k => r07_Order.f k l) (fun k => r07_Order.mono l k) h⟩
def fillTo (xs : List Int) (i : Nat) : List Int := xs.take i ++ List.replicate (xs.length - i) 0
theorem fillTo_zero (xs : List Int) : fillTo xs 0 = List.replicate xs.length 0 := by simp [fillTo]
theorem fillTo_all (xs : List Int) : fillTo xs xs.length = xs := by simp [fillTo]
theorem fillTo_length (xs : List Int) (i : Nat) (h : i ≤ xs.length) : (fillTo xs i).length = xs.length := by simp [fillTo]; omega
theorem fillTo_get (xs : List Int) (i j : Nat) (h : i ≤ xs.length) : (fillTo xs i)[j]? = if j < i then xs[j]? else if j < xs.length then some 0 else none := by
 unfold fillTo
 have m1 : min i xs.length = i := by omega
 rw [List.getElem?_append, List.length_take, m1, List.getElem?_take, List.getElem?_replicate]
 by_cases c : j < i
 ·rw [if_pos c, if_pos c, if_pos c]
 ·rw [if_neg c, if_neg c]
  by_cases c2 : j < xs.length
  ·rw [if_pos (by omega), if_pos c2]
  ·rw [if_neg (by omega), if_neg c2]
theorem fillTo_set (xs : List Int) (i : Nat) (h : i < xs.length) : (fillTo xs i).set i (xs.getD i 0) = fillTo xs (i + 1) := by
 apply List.ext_getElem?
 intro j
 rw [List.getElem?_set, fillTo_length xs i (by omega), fillTo_get xs i j (by omega), fillTo_get xs (i + 1) j (by omega)]
 by_cases c : i = j
 ·subst c
  rw [if_pos rfl, if_pos h, if_pos (by omega), List.getD_eq_getElem?_getD, List.getElem?_eq_getElem h]
  rfl
 ·rw [if_neg c]
  by_cases c2 : j < i
  ·rw [if_pos c2, if_pos (by omega)]
  ·rw [if_neg c2, if_neg (show ¬ j < i + 1 by omega)]
theorem getD_mem (l : List Int) (i : Nat) (h : i < l.length) : l.getD i 0 ∈ l := by
 rw [List.getD_eq_getElem?_getD, List.getElem?_eq_getElem h]
 exact List.getElem_mem _
theorem getD_map (l : List Int) (f : Int → Int) (i : Nat) (h : i < l.length) : (l.map f).getD i 0 = f (l.getD i 0) := by
 simp [List.getD_eq_getElem?_getD, List.getElem?_eq_getElem h]
theorem take_succ_sum (l : List Int) (i : Nat) (h : i < l.length) : (l.take (i + 1)).sum = (l.take i).sum + l.getD i 0 := by
 rw [List.take_succ_eq_append_getElem h, List.sum_append, List.getD_eq_getElem?_getD, List.getElem?_eq_getElem h]
 simp
theorem own_bump (y : List Int) (n : Nat) (hy : ∀ v ∈ y, 0 ≤ v ∧ v < (n : Int)) (hyl : y.length ≤ 4096) : ∀ (d j : Nat) (xs : List Int), y.length - j = d → j ≤ y.length → xs.length = n → (∀ v ∈ xs, 0 ≤ v ∧ v ≤ 4294967296 + (j : Int)) → ∀ k, d + 1 ≤ k →
  rank_Share.l1 k xs y (y.length : Int) (j : Int) = some (bump xs (y.drop j), 0)
 | d, j, xs, hd, hj, hx, hb, 0, hk => by omega
 | d, j, xs, hd, hj, hx, hb, k + 1, hk => by
  rw [rank_Share.l1]
  by_cases c : j < y.length
  ·have hv := hy _ (getD_mem y j c)
   rw [if_pos (by omega), if_pos (by omega), if_pos (by omega), rd_nat, if_pos hv.1, if_pos (by rw [hx]; exact hv.2), drop_get y j c]
   obtain ⟨v, hvv⟩ : ∃ v : Nat, y.getD j 0 = (v : Int) := ⟨(y.getD j 0).toNat, by omega⟩
   rw [hvv] at hv ⊢
   have hg := hb _ (getD_mem xs v (by omega))
   rw [rd_nat, Int.toNat_natCast, w64 (by omega) (by omega), w64 (by omega) (by omega)]
   show rank_Share.l1 k _ y (y.length : Int) ((j : Int) + 1) = some (bump (xs.set v (xs.getD v 0 + 1)) (y.drop (j + 1)), 0)
   refine own_bump y n hy hyl (y.length - (j + 1)) (j + 1) _ rfl (by omega) (by rw [List.length_set]; exact hx) ?_ k (by omega)
   intro u hu
   rcases List.mem_or_eq_of_mem_set hu with h | h
   ·have := hb u h; omega
   ·omega
  ·rw [if_neg (by omega), List.drop_eq_nil_of_le (by omega)]
   rfl
theorem ref_bump (y : List Int) (n m : Nat) (hy : ∀ v ∈ y, 0 ≤ v ∧ v < (n : Int)) (hyl : y.length ≤ 4096) (hm : m ≤ y.length) : ∀ (d j : Nat) (xs : List Int), m - j = d → j ≤ m → xs.length = n → (∀ v ∈ xs, 0 ≤ v ∧ v ≤ 4294967296 + (j : Int)) → ∀ k, d + 1 ≤ k →
  r07_Share.l1 k xs (m : Int) y (j : Int) = some (bump xs ((y.take m).drop j), 0)
 | d, j, xs, hd, hj, hx, hb, 0, hk => by omega
 | d, j, xs, hd, hj, hx, hb, k + 1, hk => by
  rw [r07_Share.l1]
  have tl : (y.take m).length = m := by rw [List.length_take]; omega
  by_cases c : j < m
  ·have hv := hy _ (getD_mem y j (by omega))
   rw [if_pos (by omega), if_pos (by omega), if_pos (by omega), rd_nat, if_pos hv.1, if_pos (by rw [hx]; exact hv.2), drop_get (y.take m) j (by omega)]
   have e : (y.take m).getD j 0 = y.getD j 0 := by rw [List.getD_eq_getElem?_getD, List.getElem?_take, if_pos c, List.getD_eq_getElem?_getD]
   rw [e]
   obtain ⟨v, hvv⟩ : ∃ v : Nat, y.getD j 0 = (v : Int) := ⟨(y.getD j 0).toNat, by omega⟩
   rw [hvv] at hv ⊢
   have hg := hb _ (getD_mem xs v (by omega))
   rw [rd_nat, Int.toNat_natCast, w64 (by omega) (by omega), w64 (by omega) (by omega)]
   show r07_Share.l1 k _ (m : Int) y ((j : Int) + 1) = some (bump (xs.set v (xs.getD v 0 + 1)) ((y.take m).drop (j + 1)), 0)
   refine ref_bump y n m hy hyl hm (m - (j + 1)) (j + 1) _ rfl (by omega) (by rw [List.length_set]; exact hx) ?_ k (by omega)
   intro u hu
   rcases List.mem_or_eq_of_mem_set hu with h | h
   ·have := hb u h; omega
   ·omega
  ·rw [if_neg (by omega), List.drop_eq_nil_of_le (by omega)]
   rfl
section
variable {l : List Int} {t all : Int} (h : ShareOk l t all)
include h
theorem quos_get (i : Nat) (hi : i < l.length) : (quos l t all).getD i 0 = Int.tdiv (l.getD i 0 * t) all := by unfold quos; rw [getD_map _ _ _ hi]
theorem rests_get (i : Nat) (hi : i < l.length) : (rests l t all).getD i 0 = Int.tmod (l.getD i 0 * t) all := by unfold rests; rw [getD_map _ _ _ hi]
theorem quos_mem : ∀ v ∈ quos l t all, 0 ≤ v ∧ v ≤ 4294967296 := by
 intro v hv
 unfold quos at hv
 obtain ⟨x, hx, rfl⟩ := List.mem_map.1 hv
 have := h.quo x hx
 have := h.t2
 omega
theorem order_mem (m : Nat) : ∀ v ∈ orderL (rests l t all), 0 ≤ v ∧ v < (l.length : Int) := by
 intro v hv
 rw [orderL_eq] at hv
 obtain ⟨x, hx, rfl⟩ := List.mem_map.1 hv
 have := (orderN_mem _ _).1 hx
 unfold rests at this
 rw [List.length_map] at this
 omega
theorem order_len : (orderL (rests l t all)).length = l.length := by
 rw [orderL_eq, List.length_map, orderN_length]
 unfold rests
 rw [List.length_map]
theorem own_share_l : ∀ (d i : Nat), l.length - i = d → i ≤ l.length → (0 ≤ ((quos l t all).take i).sum ∧ ((quos l t all).take i).sum ≤ 4294967296 * (i : Int)) → ∀ k, d + 5000 ≤ k →
  rank_Share.l0 k t all (fillTo (quos l t all) i) (fillTo (rests l t all) i) (t - ((quos l t all).take i).sum) l (l.length : Int) (i : Int) =
   some (bump (quos l t all) ((orderL (rests l t all)).take (missing l t all).toNat), 0)
 | d, i, hd, hi, hb, 0, hk => by omega
 | d, i, hd, hi, hb, k + 1, hk => by
  have ql : (quos l t all).length = l.length := by unfold quos; rw [List.length_map]
  have rl : (rests l t all).length = l.length := by unfold rests; rw [List.length_map]
  have ht1 := h.t1
  have ht2 := h.t2
  have hp := h.pos
  have hle := h.le
  have hlen := h.len
  rw [rank_Share.l0]
  by_cases c : i < l.length
  ·obtain ⟨a1, a2, a3, a4, a5, a6⟩ := h.quo _ (getD_mem l i c)
   rw [if_pos (by omega), if_pos (by omega), if_pos (by omega), if_neg (by omega), if_pos (by rw [fillTo_length _ _ (by omega)]; omega), if_pos (by rw [fillTo_length _ _ (by omega)]; omega), rd_nat, w64 (x := l.getD i 0 * t) (by omega) (by omega), w64 (x := Int.tdiv (l.getD i 0 * t) all) (by omega) (by omega), Int.toNat_natCast, ← quos_get h i c, ← rests_get h i c, fillTo_set _ _ (by omega), fillTo_set _ _ (by omega)]
   have es := take_succ_sum (quos l t all) i (by omega)
   rw [← quos_get h i c] at a3 a4
   rw [w64 (x := (i : Int) + 1) (by omega) (by omega), w64 (by omega) (by omega)]
   have e2 : t - ((quos l t all).take i).sum - (quos l t all).getD i 0 = t - ((quos l t all).take (i + 1)).sum := by omega
   rw [e2]
   exact own_share_l (l.length - (i + 1)) (i + 1) rfl (by omega) (by omega) k (by omega)
  ·obtain rfl : i = l.length := by omega
   obtain ⟨m0, m1, m2, _⟩ := h.miss
   have e1 : fillTo (quos l t all) l.length = quos l t all := by rw [← ql]; exact fillTo_all _
   have e2 : fillTo (rests l t all) l.length = rests l t all := by rw [← rl]; exact fillTo_all _
   have e3 : t - ((quos l t all).take l.length).sum = missing l t all := by rw [← ql, List.take_length]; rfl
   rw [if_neg (by omega), e1, e2, e3, own_order _ (by rw [rl]; omega), Option.bind_some, if_pos m1, if_pos (by rw [order_len h]; exact m2), Option.bind_some]
   have hm := order_mem h 0
   refine own_bump _ l.length (fun v hv => hm v (List.mem_of_mem_take hv)) (by rw [List.length_take, order_len h]; omega) _ 0 _ rfl (Nat.zero_le _) ql (fun v hv => ?_) k (by rw [List.length_take, order_len h]; omega)
   have := quos_mem h v hv
   omega
theorem ref_share_l (K : Nat) (hK : ∀ k, K ≤ k → r07_Order.f k (rests l t all) = some (orderL (rests l t all))) : ∀ (d i : Nat), l.length - i = d → i ≤ l.length → (0 ≤ ((quos l t all).take i).sum ∧ ((quos l t all).take i).sum ≤ 4294967296 * (i : Int)) → ∀ k, d + K + 5000 ≤ k →
  r07_Share.l0 k l t all ((quos l t all).take i) ((rests l t all).take i) (t - ((quos l t all).take i).sum) (i : Int) =
   some (bump (quos l t all) ((orderL (rests l t all)).take (missing l t all).toNat), 0)
 | d, i, hd, hi, hb, 0, hk => by omega
 | d, i, hd, hi, hb, k + 1, hk => by
  have ql : (quos l t all).length = l.length := by unfold quos; rw [List.length_map]
  have rl : (rests l t all).length = l.length := by unfold rests; rw [List.length_map]
  have ht1 := h.t1
  have ht2 := h.t2
  have hp := h.pos
  have hle := h.le
  have hlen := h.len
  rw [r07_Share.l0]
  by_cases c : i < l.length
  ·obtain ⟨a1, a2, a3, a4, a5, a6⟩ := h.quo _ (getD_mem l i c)
   have l8 : ((quos l t all).take i).length = i := by rw [List.length_take]; omega
   have l9 : ((rests l t all).take i).length = i := by rw [List.length_take]; omega
   have n8 : (quos l t all).take i ++ [(quos l t all).getD i 0] = (quos l t all).take (i + 1) := by
    rw [List.take_succ_eq_append_getElem (by omega : i < (quos l t all).length), List.getD_eq_getElem?_getD, List.getElem?_eq_getElem (by omega)]
    rfl
   have n9 : (rests l t all).take i ++ [(rests l t all).getD i 0] = (rests l t all).take (i + 1) := by
    rw [List.take_succ_eq_append_getElem (by omega : i < (rests l t all).length), List.getD_eq_getElem?_getD, List.getElem?_eq_getElem (by omega)]
    rfl
   rw [if_pos (by omega), if_pos (by omega), if_neg (by omega), if_pos (by omega), rd_nat, w64 (x := l.getD i 0 * t) (by omega) (by omega), w64 (x := Int.tdiv (l.getD i 0 * t) all) (by omega) (by omega), ← quos_get h i c, ← rests_get h i c, n8, n9, Option.bind_some, if_pos (by omega), if_pos (by rw [List.length_take]; omega), rd_nat]
   have e0 : ((quos l t all).take (i + 1)).getD i 0 = (quos l t all).getD i 0 := by rw [List.getD_eq_getElem?_getD, List.getElem?_take, if_pos (by omega), List.getD_eq_getElem?_getD]
   rw [e0]
   have es := take_succ_sum (quos l t all) i (by omega)
   rw [← quos_get h i c] at a3 a4
   rw [w64 (x := (i : Int) + 1) (by omega) (by omega), w64 (by omega) (by omega)]
   have e2 : t - ((quos l t all).take i).sum - (quos l t all).getD i 0 = t - ((quos l t all).take (i + 1)).sum := by omega
   rw [e2]
   exact ref_share_l K hK (l.length - (i + 1)) (i + 1) rfl (by omega) (by omega) k (by omega)
  ·obtain rfl : i = l.length := by omega
   obtain ⟨m0, m1, m2, _⟩ := h.miss
   have e1 : (quos l t all).take l.length = quos l t all := by rw [← ql, List.take_length]
   have e2 : (rests l t all).take l.length = rests l t all := by rw [← rl, List.take_length]
   have e3 : t - ((quos l t all).take l.length).sum = missing l t all := by rw [← ql, List.take_length]; rfl
   rw [if_neg (by omega), e3, e1, e2, hK k (by omega), Option.bind_some]
   obtain ⟨m, hm⟩ : ∃ m : Nat, missing l t all = (m : Int) := ⟨(missing l t all).toNat, by omega⟩
   rw [hm, Int.toNat_natCast]
   refine ref_bump _ l.length m (order_mem h 0) (by rw [order_len h]; omega) (by rw [order_len h]; omega) _ 0 _ rfl (Nat.zero_le _) ql (fun v hv => ?_) k (by omega)
   have := quos_mem h v hv
   omega
end
theorem own_share (l : List Int) (t : Int) (k : Nat) (hk : 10000 ≤ k) : rank_Share.f k l t = some (shareL l t) := by
 obtain ⟨k, rfl⟩ : ∃ q, k = q + 1 := ⟨k - 1, by omega⟩
 have hj : rank_Share.f (k + 1) l t = rank_Share.j0 (k + 1) l t (decide (t < 1 ∨ t > 4294967296)) := by
  rw [rank_Share.f]
  by_cases c : t < 1
  ·rw [if_pos c, decide_eq_true (Or.inl c)]
  ·rw [if_neg c]
   congr 1
   by_cases c2 : t > 4294967296
   ·rw [decide_eq_true c2, decide_eq_true (Or.inr c2)]
   ·rw [decide_eq_false c2, decide_eq_false (by omega)]
 rw [hj, rank_Share.j0, shareL]
 by_cases c : t < 1 ∨ t > 4294967296
 ·rw [decide_eq_true c, if_pos rfl, if_pos c]
 ·rw [decide_eq_false c, if_neg (by decide), if_neg c, own_sum l k (by omega), Option.bind_some]
  by_cases c2 : (sumL l).2 = 0
  ·have h := shareOk c2 c
   have hlen := h.len
   rw [if_pos c2, if_neg (show ¬ (sumL l).2 ≠ 0 by rw [c2]; simp), if_pos (by omega), Int.toNat_natCast, if_pos (by omega)]
   have e1 := fillTo_zero (quos l t (sumL l).1)
   have e2 := fillTo_zero (rests l t (sumL l).1)
   rw [show (quos l t (sumL l).1).length = l.length by unfold quos; rw [List.length_map]] at e1
   rw [show (rests l t (sumL l).1).length = l.length by unfold rests; rw [List.length_map]] at e2
   have := own_share_l h _ 0 rfl (Nat.zero_le _) (by simp) k (by omega)
   rw [e1, e2] at this
   simpa using this
  ·rw [if_neg c2, if_pos c2]
theorem ref_share (l : List Int) (t : Int) (hl : l.length < 17592186044416) : ∃ K, ∀ k, K ≤ k → r07_Share.f k l t = some (shareL l t) := by
 obtain ⟨K, hK⟩ := ref_order (rests l t (sumL l).1) (by unfold rests; rw [List.length_map]; exact hl)
 refine ⟨K + 10000, fun k hk => ?_⟩
 obtain ⟨k, rfl⟩ : ∃ q, k = q + 1 := ⟨k - 1, by omega⟩
 have hj : r07_Share.f (k + 1) l t = r07_Share.j0 (k + 1) l t (decide (t < 1 ∨ t > 4294967296)) := by
  rw [r07_Share.f]
  by_cases c : t < 1
  ·rw [if_pos c, decide_eq_true (Or.inl c)]
  ·rw [if_neg c]
   congr 1
   by_cases c2 : t > 4294967296
   ·rw [decide_eq_true c2, decide_eq_true (Or.inr c2)]
   ·rw [decide_eq_false c2, decide_eq_false (by omega)]
 rw [hj, r07_Share.j0, shareL]
 by_cases c : t < 1 ∨ t > 4294967296
 ·rw [decide_eq_true c, if_pos rfl, if_pos c]
 ·rw [decide_eq_false c, if_neg (by decide), if_neg c, ref_sum l k (by omega), Option.bind_some]
  by_cases c2 : (sumL l).2 = 0
  ·have h := shareOk c2 c
   have hlen := h.len
   rw [if_pos c2, if_neg (show ¬ (sumL l).2 ≠ 0 by rw [c2]; simp)]
   have := ref_share_l h K hK _ 0 rfl (Nat.zero_le _) (by simp) k (by omega)
   simpa using this
  ·rw [if_neg c2, if_pos c2]
theorem length_bump : ∀ (is xs : List Int), (bump xs is).length = xs.length
 | [], xs => rfl
 | i :: r, xs => by
  show (bump (xs.set i.toNat (xs.getD i.toNat 0 + 1)) r).length = _
  rw [length_bump r, List.length_set]
theorem length_share (l : List Int) (t : Int) : (shareL l t).1.length ≤ l.length := by
 unfold shareL
 split
 ·exact Nat.zero_le _
 ·split
  ·exact Nat.zero_le _
  ·show (bump _ _).length ≤ _
   rw [length_bump]
   unfold quos
   rw [List.length_map]
   exact Nat.le_refl _
end Go.Proofs.Ythmckhfjaleomaa.Pure
namespace Go.Proofs.Ythmckhfjaleomaa.Pure
set_option linter.unusedSimpArgs false
set_option linter.unusedVariables false
open Go.RowKit Go.Proofs.YthmckhfjaleomaaW.PrintWords Go.Proofs.YthmckhfjaleomaaW.PrintLast Go.Proofs.YthmckhfjaleomaaW.PrintMore Go.Proofs.Ythmckhfjaleomaa.T Go.Proofs.Ythmckhfjaleomaa.St
def topL (l : List Int) (k : Int) : List Int := if k > 0 ∧ k < (l.length : Int) then (orderL l).take k.toNat else orderL l
theorem orderL_len (l : List Int) : (orderL l).length = l.length := by rw [orderL_eq, List.length_map, orderN_length]
theorem topL_len (l : List Int) (k : Int) : (topL l k).length ≤ l.length := by
 unfold topL
 split
 ·rw [List.length_take, orderL_len]; omega
 ·rw [orderL_len]; exact Nat.le_refl _
theorem own_top (l : List Int) (hl : l.length ≤ 17592186044416) (a : Int) : rank_Top.f l a = some (topL l a) := by
 rw [rank_Top.f, own_order _ hl, Option.bind_some, topL, orderL_len]
 by_cases c : a > 0
 ·rw [if_pos c]
  by_cases c2 : a < (l.length : Int)
  ·rw [if_pos c2, if_pos (by omega), if_pos (by omega), if_pos ⟨c, c2⟩, slices_Clone_int_int.f, if_pos (by rw [List.length_take, orderL_len]; omega)]
   rfl
  ·rw [if_neg c2, if_neg (by omega)]
 ·rw [if_neg c, if_neg (by omega)]
theorem ref_top (l : List Int) (a : Int) (k : Nat) (h : r07_Order.f k l = some (orderL l)) : r07_Top.f k l a = some (topL l a) := by
 rw [r07_Top.f, h, Option.bind_some, topL, orderL_len]
 by_cases c : a > 0
 ·rw [if_pos c]
  by_cases c2 : a < (l.length : Int)
  ·rw [if_pos c2, if_pos (by omega), if_pos (by omega), if_pos ⟨c, c2⟩]
  ·rw [if_neg c2, if_neg (by omega)]
 ·rw [if_neg c, if_neg (by omega)]
def enough (l o : List Int) (need : Int) : Nat → Nat → Int → Nat
 | 0, n, sm => n
 | d + 1, n, sm => if sm * 65536 < need then enough l o need d (n + 1) (sm + l.getD (o.getD n 0).toNat 0) else n
def rest (l o : List Int) (n : Nat) : Int := ((o.drop n).map fun x => l.getD x.toNat 0).sum
theorem rest_succ (l o : List Int) (n : Nat) (h : n < o.length) : rest l o n = l.getD (o.getD n 0).toNat 0 + rest l o (n + 1) := by
 unfold rest
 rw [drop_get o n h, List.map_cons, List.sum_cons]
theorem rest_end (l o : List Int) (n : Nat) (h : o.length ≤ n) : rest l o n = 0 := by
 unfold rest
 rw [List.drop_eq_nil_of_le h]
 rfl
theorem perm_sum {a b : List Int} (h : a.Perm b) : a.sum = b.sum := by
 induction h with
 | nil => rfl
 | cons x _ ih => rw [List.sum_cons, List.sum_cons, ih]
 | swap x y l => rw [List.sum_cons, List.sum_cons, List.sum_cons, List.sum_cons]; omega
 | trans _ _ h1 h2 => rw [h1, h2]
theorem rest_zero (l : List Int) : rest l (orderL l) 0 = l.sum := by
 unfold rest
 rw [List.drop_zero, orderL_eq, List.map_map]
 have e : ((orderN l).map ((fun x => l.getD x.toNat 0) ∘ fun x : Nat => (x : Int))).Perm ((List.range l.length).map ((fun x => l.getD x.toNat 0) ∘ fun x : Nat => (x : Int))) := (orderN_spec l).1.map _
 rw [perm_sum e]
 congr 1
 apply List.ext_getElem
 ·simp
 ·intro i h1 h2
  simp [List.getD_eq_getElem?_getD, List.getElem?_eq_getElem h2]
section
variable {l : List Int} {part all : Int} (hlen : l.length ≤ 4096) (hl : ∀ x ∈ l, 0 ≤ x ∧ x ≤ 1073741824) (hp : 1 ≤ part ∧ part ≤ 65536) (ha : 0 < all ∧ all ≤ 4398046511104)
include hlen hl hp ha
theorem own_nuc_l : ∀ (d n : Nat) (s : Int), l.length - n = d → n ≤ l.length → 0 ≤ s → s ≤ 1073741824 * (n : Int) → all = s + rest l (orderL l) n → ∀ k, d + 1 ≤ k →
  rank_Nucleus.l0 k l part all (orderL l) (n : Int) s = some ((orderL l).take (enough l (orderL l) (part * all) d n s), 0)
 | d, n, s, hd, hn, h0, h1, he, 0, hk => by omega
 | d, n, s, hd, hn, h0, h1, he, k + 1, hk => by
  have ol := orderL_len l
  have b1 : part * all ≤ 65536 * all := Int.mul_le_mul_of_nonneg_right hp.2 (by omega)
  have b0 : 0 ≤ part * all := Int.mul_nonneg (by omega) (by omega)
  rw [rank_Nucleus.l0, w64 (x := s * 65536) (by omega) (by omega), w64 (x := part * all) (by omega) (by omega)]
  by_cases c : s * 65536 < part * all
  ·have hnl : n < l.length := by
    rcases Nat.lt_or_ge n l.length with h | h
    ·exact h
    ·rw [rest_end _ _ _ (by omega)] at he
     omega
   obtain ⟨d, rfl⟩ : ∃ e, d = e + 1 := ⟨d - 1, by omega⟩
   have hv : 0 ≤ (orderL l).getD n 0 ∧ (orderL l).getD n 0 < (l.length : Int) := by
    have hm := getD_mem (orderL l) n (by omega)
    rw [orderL_eq] at hm ⊢
    obtain ⟨x, hx, he⟩ := List.mem_map.1 hm
    have := (orderN_mem _ _).1 hx
    omega
   have hr := rest_succ l (orderL l) n (by omega)
   rw [if_pos c, if_pos (by omega), if_pos (by omega), rd_nat, if_pos hv.1, if_pos hv.2, enough, if_pos c]
   have hx := hl _ (getD_mem l ((orderL l).getD n 0).toNat (by omega))
   show rank_Nucleus.l0 k l part all (orderL l) (wrap64 ((n : Int) + 1)) (wrap64 (s + l.getD ((orderL l).getD n 0).toNat 0)) = _
   rw [w64 (by omega) (by omega), w64 (by omega) (by omega)]
   exact own_nuc_l d (n + 1) _ (by omega) (by omega) (by omega) (by omega) (by omega) k (by omega)
  ·have e : enough l (orderL l) (part * all) d n s = n := by
    cases d with
    | zero => rfl
    | succ d => rw [enough, if_neg c]
   rw [if_neg c, if_pos (by omega), if_pos (by omega), e, slices_Clone_int_int.f, if_pos (by rw [List.length_take]; omega), Option.bind_some, Int.toNat_natCast]
theorem ref_nuc_l : ∀ (d n : Nat) (s : Int), l.length - n = d → n ≤ l.length → 0 ≤ s → s ≤ 1073741824 * (n : Int) → all = s + rest l (orderL l) n → ∀ k, d + 1 ≤ k →
  r07_Nucleus.l0 k l part all (orderL l) (n : Int) s = some ((orderL l).take (enough l (orderL l) (part * all) d n s), 0)
 | d, n, s, hd, hn, h0, h1, he, 0, hk => by omega
 | d, n, s, hd, hn, h0, h1, he, k + 1, hk => by
  have ol := orderL_len l
  have b1 : part * all ≤ 65536 * all := Int.mul_le_mul_of_nonneg_right hp.2 (by omega)
  have b0 : 0 ≤ part * all := Int.mul_nonneg (by omega) (by omega)
  rw [r07_Nucleus.l0, w64 (x := s * 65536) (by omega) (by omega), w64 (x := part * all) (by omega) (by omega)]
  by_cases c : s * 65536 < part * all
  ·have hnl : n < l.length := by
    rcases Nat.lt_or_ge n l.length with h | h
    ·exact h
    ·rw [rest_end _ _ _ (by omega)] at he
     omega
   obtain ⟨d, rfl⟩ : ∃ e, d = e + 1 := ⟨d - 1, by omega⟩
   have hv : 0 ≤ (orderL l).getD n 0 ∧ (orderL l).getD n 0 < (l.length : Int) := by
    have hm := getD_mem (orderL l) n (by omega)
    rw [orderL_eq] at hm ⊢
    obtain ⟨x, hx, he⟩ := List.mem_map.1 hm
    have := (orderN_mem _ _).1 hx
    omega
   have hr := rest_succ l (orderL l) n (by omega)
   rw [if_pos c, if_pos (by omega), if_pos (by omega), rd_nat, if_pos hv.1, if_pos hv.2, enough, if_pos c]
   have hx := hl _ (getD_mem l ((orderL l).getD n 0).toNat (by omega))
   show r07_Nucleus.l0 k l part all (orderL l) (wrap64 ((n : Int) + 1)) (wrap64 (s + l.getD ((orderL l).getD n 0).toNat 0)) = _
   rw [w64 (by omega) (by omega), w64 (by omega) (by omega)]
   exact ref_nuc_l d (n + 1) _ (by omega) (by omega) (by omega) (by omega) (by omega) k (by omega)
  ·have e : enough l (orderL l) (part * all) d n s = n := by
    cases d with
    | zero => rfl
    | succ d => rw [enough, if_neg c]
   rw [if_neg c, if_pos (by omega), if_pos (by omega), e, Int.toNat_natCast]
end
def nucL (l : List Int) (part : Int) : List Int × Int :=
 if part < 1 ∨ part > 65536 then ([], 1) else if (sumL l).2 ≠ 0 then ([], (sumL l).2) else ((orderL l).take (enough l (orderL l) (part * (sumL l).1) l.length 0 0), 0)
theorem nucL_len (l : List Int) (part : Int) : (nucL l part).1.length ≤ l.length := by
 unfold nucL
 split
 ·exact Nat.zero_le _
 ·split
  ·exact Nat.zero_le _
  ·show (List.take _ _).length ≤ _
   rw [List.length_take, orderL_len]; omega
theorem sum_all (l : List Int) (h : (sumL l).2 = 0) : l.length ≤ 4096 ∧ (∀ x ∈ l, 0 ≤ x ∧ x ≤ 1073741824) ∧ (0 < (sumL l).1 ∧ (sumL l).1 ≤ 4398046511104) ∧ (sumL l).1 = 0 + rest l (orderL l) 0 := by
 obtain ⟨a, b, c, d⟩ := sumL_ok h
 have hs := sum_le 1073741824 (by omega) (l := l) (fun x hx => (b x hx).2)
 refine ⟨a, b, ⟨d, by omega⟩, ?_⟩
 rw [rest_zero, c]; omega
theorem own_nuc (l : List Int) (hl : l.length ≤ 17592186044416) (a : Int) (k : Nat) (hk : 10000 ≤ k) : rank_Nucleus.f k l a = some (nucL l a) := by
 obtain ⟨k, rfl⟩ : ∃ q, k = q + 1 := ⟨k - 1, by omega⟩
 have hj : rank_Nucleus.f (k + 1) l a = rank_Nucleus.j0 (k + 1) l a (decide (a < 1 ∨ a > 65536)) := by
  rw [rank_Nucleus.f]
  by_cases c : a < 1
  ·rw [if_pos c, decide_eq_true (Or.inl c)]
  ·rw [if_neg c]
   congr 1
   by_cases c2 : a > 65536
   ·rw [decide_eq_true c2, decide_eq_true (Or.inr c2)]
   ·rw [decide_eq_false c2, decide_eq_false (by omega)]
 rw [hj, rank_Nucleus.j0, nucL]
 by_cases c : a < 1 ∨ a > 65536
 ·rw [decide_eq_true c, if_pos rfl, if_pos c]
 ·rw [decide_eq_false c, if_neg (by decide), if_neg c, own_sum l k (by omega), Option.bind_some]
  by_cases c2 : (sumL l).2 = 0
  ·obtain ⟨h1, h2, h3, h4⟩ := sum_all l c2
   rw [if_pos c2, if_neg (show ¬ (sumL l).2 ≠ 0 by rw [c2]; simp), own_order _ hl, Option.bind_some]
   exact own_nuc_l h1 h2 (by omega) h3 l.length 0 0 rfl (Nat.zero_le _) (Int.le_refl _) (by omega) h4 k (by omega)
  ·rw [if_neg c2, if_pos c2]
theorem ref_nuc (l : List Int) (hl : l.length < 17592186044416) (a : Int) : ∃ K, ∀ k, K ≤ k → r07_Nucleus.f k l a = some (nucL l a) := by
 obtain ⟨K, hK⟩ := ref_order l hl
 refine ⟨K + 10000, fun k hk => ?_⟩
 obtain ⟨k, rfl⟩ : ∃ q, k = q + 1 := ⟨k - 1, by omega⟩
 have hj : r07_Nucleus.f (k + 1) l a = r07_Nucleus.j0 (k + 1) l a (decide (a < 1 ∨ a > 65536)) := by
  rw [r07_Nucleus.f]
  by_cases c : a < 1
  ·rw [if_pos c, decide_eq_true (Or.inl c)]
  ·rw [if_neg c]
   congr 1
   by_cases c2 : a > 65536
   ·rw [decide_eq_true c2, decide_eq_true (Or.inr c2)]
   ·rw [decide_eq_false c2, decide_eq_false (by omega)]
 rw [hj, r07_Nucleus.j0, nucL]
 by_cases c : a < 1 ∨ a > 65536
 ·rw [decide_eq_true c, if_pos rfl, if_pos c]
 ·rw [decide_eq_false c, if_neg (by decide), if_neg c, ref_sum l k (by omega), Option.bind_some]
  by_cases c2 : (sumL l).2 = 0
  ·obtain ⟨h1, h2, h3, h4⟩ := sum_all l c2
   rw [if_pos c2, if_neg (show ¬ (sumL l).2 ≠ 0 by rw [c2]; simp), hK _ (by omega), Option.bind_some]
   exact ref_nuc_l h1 h2 (by omega) h3 l.length 0 0 rfl (Nat.zero_le _) (Int.le_refl _) (by omega) h4 k (by omega)
  ·rw [if_neg c2, if_pos c2]
end Go.Proofs.Ythmckhfjaleomaa.Pure


namespace Go.Proofs.Ythmckhfjaleomaa.Pure
set_option linter.unusedSimpArgs false
set_option linter.unusedVariables false
set_option linter.unusedSectionVars false
open Go.RowKit Go.Proofs.YthmckhfjaleomaaW.PrintWords Go.Proofs.YthmckhfjaleomaaW.PrintLast Go.Proofs.YthmckhfjaleomaaW.PrintMore Go.Proofs.Ythmckhfjaleomaa.T Go.Proofs.Ythmckhfjaleomaa.St
theorem ev_pos {α : Type} {c : Prop} [Decidable c] {A B : Nat → Option α} {r : α} (h : c) (e : Ev A r) : Ev (fun k => if c then A k else B k) r := by
 refine Ev.congr (fun k => ?_) e
 rw [if_pos h]
theorem ev_neg {α : Type} {c : Prop} [Decidable c] {A B : Nat → Option α} {r : α} (h : ¬ c) (e : Ev B r) : Ev (fun k => if c then A k else B k) r := by
 refine Ev.congr (fun k => ?_) e
 rw [if_neg h]
theorem ev_some {α β : Type} {a : α} {f : Nat → α → Option β} {r : β} (e : Ev (fun k => f k a) r) : Ev (fun k => (some a).bind fun y => f k y) r := e
theorem ev_is {α β : Type} {o : Option α} {a : α} {f : Nat → α → Option β} {r : β} (h : o = some a) (e : Ev (fun k => f k a) r) : Ev (fun k => o.bind fun y => f k y) r := by
 subst h; exact e
theorem ev_rounds {α : Type} {g : Nat → Option α} {r : α} (h : Ev g r) : ∃ k, g k = some r := by
 obtain ⟨K, h⟩ := h
 exact ⟨K, h K (Nat.le_refl _)⟩
theorem w1 (i : Nat) (h : i < 4611686018427387904) : wrap64 ((i : Int) + 1) = ((i + 1 : Nat) : Int) := by rw [w64 (by omega) (by omega)]; omega
def cv (y : S46) : S74 := ⟨y.f0, y.f1⟩
def pr (y : S46) : Int × Int := (y.f0, y.f1)
theorem rd46 (l : List S46) (i : Nat) (h : i < l.length) : rd_T46 l (i : Int) = l[i] := by
 unfold rd_T46
 rw [Int.toNat_natCast, List.getD_eq_getElem?_getD, List.getElem?_eq_getElem h]; rfl
theorem rd74 (l : List S74) (i : Nat) (h : i < l.length) : rd_T74 l (i : Int) = l[i] := by
 unfold rd_T74
 rw [Int.toNat_natCast, List.getD_eq_getElem?_getD, List.getElem?_eq_getElem h]; rfl
theorem plain_l (l : List S46) (hl : l.length < 8796093022208) (a0 a1 a2 a3 a4 : Int) : ∀ (d i : Nat), l.length - i = d → i ≤ l.length →
  Ev (fun k => w22_plain.l0 k l (l.length : Int) (i : Int) a0 a1 a2 a3 a4 ((l.take i).map cv)) (a0, a1, a2, a3, a4, l.map cv)
 | d, i, hd, hi => by
  refine Ev.step (fun k => by rw [w22_plain.l0]) ?_
  by_cases c : i < l.length
  ·obtain ⟨d, rfl⟩ : ∃ e, d = e + 1 := ⟨d - 1, by omega⟩
   have hm : ((l.take i).map cv).length = i := by rw [List.length_map, List.length_take]; omega
   refine ev_pos (by omega) (ev_pos (by omega) (ev_pos (by omega) (ev_pos (by rw [hm]; omega) ?_)))
   have h := plain_l l hl a0 a1 a2 a3 a4 d (i + 1) (by omega) (by omega)
   rw [w1 i (by omega), rd46 l i c]
   rw [List.take_succ_eq_append_getElem c, List.map_append] at h
   exact h
  ·obtain rfl : i = l.length := by omega
   refine ev_neg (by omega) ?_
   rw [List.take_length]
   exact Ev.now _
theorem plain_ev (l : List S46) (hl : l.length < 8796093022208) (a0 a1 a2 a3 a4 : Int) : Ev (fun k => w22_plain.f k a0 a1 a2 a3 a4 l) (a0, a1, a2, a3, a4, l.map cv) :=
 plain_l l hl a0 a1 a2 a3 a4 _ 0 rfl (Nat.zero_le _)
def totL (b : Int) : Int := if b = 1 then 2 else if b = 2 then 4 else if b = 4 then 16 else if b = 8 then 256 else if b = 16 then 65536 else if b = 32 then 4294967296 else 0
theorem index6 (b : Int) : ∃ j : Int, -1 ≤ j ∧ (0 ≤ j ↔ (b = 1 ∨ b = 2 ∨ b = 4 ∨ b = 8 ∨ b = 16 ∨ b = 32)) ∧ Ev (fun k => slices_Index_int_int.l0 k [1, 2, 4, 8, 16, 32] b 6 0) j := by
 by_cases c1 : b = 1
 ·exact ⟨0, by omega, by omega, Ev.step (fun k => by rw [slices_Index_int_int.l0]) (ev_pos (by omega) (ev_pos (by omega) (ev_pos (by decide) (ev_pos (by rw [c1]; rfl) (Ev.now _)))))⟩
 by_cases c2 : b = 2
 ·subst c2; exact ⟨1, by omega, by omega, 10, fun k hk => by obtain ⟨k, rfl⟩ : ∃ q, k = q + 10 := ⟨k - 10, by omega⟩; simp [slices_Index_int_int.l0, rd, wrap64]⟩
 by_cases c3 : b = 4
 ·subst c3; exact ⟨2, by omega, by omega, 10, fun k hk => by obtain ⟨k, rfl⟩ : ∃ q, k = q + 10 := ⟨k - 10, by omega⟩; simp [slices_Index_int_int.l0, rd, wrap64]⟩
 by_cases c4 : b = 8
 ·subst c4; exact ⟨3, by omega, by omega, 10, fun k hk => by obtain ⟨k, rfl⟩ : ∃ q, k = q + 10 := ⟨k - 10, by omega⟩; simp [slices_Index_int_int.l0, rd, wrap64]⟩
 by_cases c5 : b = 16
 ·subst c5; exact ⟨4, by omega, by omega, 10, fun k hk => by obtain ⟨k, rfl⟩ : ∃ q, k = q + 10 := ⟨k - 10, by omega⟩; simp [slices_Index_int_int.l0, rd, wrap64]⟩
 by_cases c6 : b = 32
 ·subst c6; exact ⟨5, by omega, by omega, 10, fun k hk => by obtain ⟨k, rfl⟩ : ∃ q, k = q + 10 := ⟨k - 10, by omega⟩; simp [slices_Index_int_int.l0, rd, wrap64]⟩
 exact ⟨-1, by omega, by omega, 10, fun k hk => by obtain ⟨k, rfl⟩ : ∃ q, k = q + 10 := ⟨k - 10, by omega⟩; simp [slices_Index_int_int.l0, rd, wrap64, c1, c2, c3, c4, c5, c6]⟩
theorem shl1 (b : Int) (h : b = 1 ∨ b = 2 ∨ b = 4 ∨ b = 8 ∨ b = 16 ∨ b = 32) : shl .i64 1 b = totL b := by
 rcases h with rfl | rfl | rfl | rfl | rfl | rfl <;> decide
theorem total_ev (l : List S46) (a0 a1 a2 a3 a4 : Int) : Ev (fun k => dist_Total.f k a0 a1 a2 a3 a4 l) (totL a4) := by
 obtain ⟨j, h1, h2, h3⟩ := index6 a4
 unfold dist_Total.f slices_Contains_int_int.f slices_Index_int_int.f
 refine Ev.bind (a := decide (0 ≤ j)) (Ev.bind (a := j) h3 (Ev.now _)) ?_
 by_cases c : 0 ≤ j
 ·have h := h2.1 c
  rw [decide_eq_true c]
  refine ev_pos rfl (ev_pos (by omega) ?_)
  rw [shl1 a4 h]
  exact Ev.now _
 ·rw [decide_eq_false c]
  refine ev_neg (by decide) ?_
  have : totL a4 = 0 := by
   have h : ¬ (a4 = 1 ∨ a4 = 2 ∨ a4 = 4 ∨ a4 = 8 ∨ a4 = 16 ∨ a4 = 32) := fun h => c (h2.2 h)
   unfold totL
   rw [if_neg (by omega), if_neg (by omega), if_neg (by omega), if_neg (by omega), if_neg (by omega), if_neg (by omega)]
  rw [this]
  exact Ev.now _
theorem ref_total (l : List S74) (a0 a1 a2 a3 a4 : Int) : r22_Total.f a0 a1 a2 a3 a4 l = some (totL a4) := by
 unfold r22_Total.f totL
 by_cases c1 : a4 = 1
 ·subst c1; decide
 by_cases c2 : a4 = 2
 ·subst c2; decide
 by_cases c3 : a4 = 4
 ·subst c3; decide
 by_cases c4 : a4 = 8
 ·subst c4; decide
 by_cases c5 : a4 = 16
 ·subst c5; decide
 by_cases c6 : a4 = 32
 ·subst c6; decide
 rw [if_neg c1, if_neg c1, if_neg c2, if_neg c2, if_neg c3, if_neg c3, if_neg c4, if_neg c4, if_neg c5, if_neg c5, if_neg c6, if_neg c6]
theorem check_ev (l : List S46) (hl : l.length ≤ 17592186044416) (a0 a1 a2 a3 a4 t : Int) : Ev (fun k => dist_Check.f k a0 a1 a2 a3 a4 l t) (checkL a0 a1 a2 a3 t (totL a4) (l.map pr)) := by
 unfold dist_Check.f
 refine ev_pos hl (Ev.bind (total_ev l a0 a1 a2 a3 a4) (Ev.now _))
theorem twice_l (x1 : Int) (L x66 : List S74) (x67 : Int) (p : Nat) (y0 y1 y2 y3 y4 b0 b1 : Int) (R : Int) (x95 : List S74) (h95 : x95.length ≤ 64)
  (hno : x95.any (fun a => a.f0 == b0) = false → Ev (fun k => r22_Check.l0 k x1 x66 x67 (wrap64 ((p : Int) + 1)) y0 y1 y2 y3 y4 L) R) (hyes : x95.any (fun a => a.f0 == b0) = true → R = 220) : ∀ (d i : Nat), x95.length - i = d → i ≤ x95.length → (x95.take i).any (fun a => a.f0 == b0) = false →
  Ev (fun k => r22_Check.l1 k x1 x66 x67 (p : Int) x95 (x95.length : Int) (i : Int) y0 y1 y2 y3 y4 L b0 b1) R
 | d, i, hd, hi, ht => by
  refine Ev.step (fun k => by rw [r22_Check.l1]) ?_
  by_cases c : i < x95.length
  ·obtain ⟨d, rfl⟩ : ∃ e, d = e + 1 := ⟨d - 1, by omega⟩
   refine ev_pos (by omega) (ev_pos (by omega) (ev_pos (by omega) ?_))
   rw [rd74 x95 i c, w1 i (by omega)]
   by_cases e : x95[i].f0 = b0
   ·refine ev_pos e ?_
    rw [hyes (List.any_eq_true.2 ⟨x95[i], List.getElem_mem _, by rw [e]; simp⟩)]
    exact Ev.now _
   ·refine ev_neg e (twice_l x1 L x66 x67 p y0 y1 y2 y3 y4 b0 b1 R x95 h95 hno hyes d (i + 1) (by omega) (by omega) ?_)
    rw [List.take_succ_eq_append_getElem c, List.any_append, ht]
    simp [e]
  ·obtain rfl : i = x95.length := by omega
   rw [List.take_length] at ht
   exact ev_neg (by omega) (hno ht)
theorem badB_cv (t : Int) (before : List S46) (b : S46) : badB t (before.map pr) (pr b) = (decide (b.f0 < 0) || decide (b.f0 ≥ t) || decide (b.f1 < -1048576) || decide (b.f1 > 1048576) || (before.map cv).any (fun a => a.f0 == b.f0)) := by
 unfold badB pr cv
 rw [List.any_map, List.any_map]
 have e : (!(decide (0 ≤ b.f0) && decide (b.f0 ≤ t - 1))) = (decide (b.f0 < 0) || decide (b.f0 ≥ t)) := by
  by_cases c1 : b.f0 < 0
  ·rw [decide_eq_true c1, decide_eq_false (by omega)]; rfl
  ·rw [decide_eq_false c1, decide_eq_true (by omega)]
   by_cases c2 : b.f0 ≥ t
   ·rw [decide_eq_true c2, decide_eq_false (by omega)]; rfl
   ·rw [decide_eq_false c2, decide_eq_true (by omega)]; rfl
 rw [e]
 rfl
theorem ref_good (t y0 y1 y2 y3 y4 : Int) (l : List S46) (hl : l.length ≤ 64) : ∀ (d i : Nat), l.length - i = d → i ≤ l.length →
  Ev (fun k => r22_Check.l0 k t (l.map cv) (l.length : Int) (i : Int) y0 y1 y2 y3 y4 (l.map cv)) (if goodBias t (l.map pr) d i = true then 0 else 220)
 | d, i, hd, hi => by
  refine Ev.step (fun k => by rw [r22_Check.l0]) ?_
  have hm : (l.map cv).length = l.length := List.length_map _
  by_cases c : i < l.length
  ·obtain ⟨d, rfl⟩ : ∃ e, d = e + 1 := ⟨d - 1, by omega⟩
   refine ev_pos (by omega) (ev_pos (by omega) (ev_pos (by omega) ?_))
   have hg : (l.map pr).getD i (0, 0) = pr l[i] := by simp [List.getD_eq_getElem?_getD, List.getElem?_eq_getElem c]
   have hr : rd_T74 (l.map cv) (i : Int) = cv l[i] := by rw [rd74 _ i (by omega), List.getElem_map]
   rw [hr, goodBias, hg, ← List.map_take, badB_cv]
   have fin : ∀ (B : Bool), Ev (fun k => r22_Check.j3 k t (i : Int) (l.map cv) (l.length : Int) (i : Int) B y0 y1 y2 y3 y4 (l.map cv) (cv l[i]).f0 (cv l[i]).f1) (if (if (B || ((l.take i).map cv).any (fun a => a.f0 == l[i].f0)) = true then false else goodBias t (l.map pr) d (i + 1)) = true then 0 else 220) := by
    intro B
    refine Ev.step (fun k => by rw [r22_Check.j3]) ?_
    cases B with
    | true => exact ev_pos rfl (by rw [Bool.true_or, if_pos rfl, if_neg (by decide)]; exact Ev.now _)
    | false =>
     refine ev_neg (by decide) (ev_pos (by omega) (ev_pos (by omega) (ev_some ?_)))
     rw [Int.toNat_natCast, ← List.map_take, Bool.false_or]
     have hk : ((l.take i).map cv).length ≤ 64 := by rw [List.length_map, List.length_take]; omega
     refine twice_l t (l.map cv) (l.map cv) (l.length : Int) i y0 y1 y2 y3 y4 _ _ _ ((l.take i).map cv) hk ?_ ?_ _ 0 rfl (Nat.zero_le _) rfl
     ·intro hno
      have hno' : ((l.take i).map cv).any (fun a => a.f0 == l[i].f0) = false := hno
      rw [hno', if_neg (show ¬ (false = true) by decide), w1 i (by omega)]
      exact ref_good t y0 y1 y2 y3 y4 l hl d (i + 1) (by omega) (by omega)
     ·intro hy
      have hy' : ((l.take i).map cv).any (fun a => a.f0 == l[i].f0) = true := hy
      rw [hy', if_pos rfl, if_neg (by decide)]
   have f0 : (cv l[i]).f0 = l[i].f0 := rfl
   have f1 : (cv l[i]).f1 = l[i].f1 := rfl
   rw [f0, f1] at fin ⊢
   by_cases c1 : l[i].f0 < 0
   ·rw [decide_eq_true c1]
    exact ev_pos c1 (fin true)
   refine ev_neg c1 ?_
   by_cases c2 : l[i].f0 ≥ t
   ·rw [decide_eq_false c1, decide_eq_true c2]
    exact ev_pos c2 (fin true)
   refine ev_neg c2 ?_
   by_cases c3 : l[i].f1 < -1048576
   ·rw [decide_eq_false c1, decide_eq_false c2, decide_eq_true c3]
    exact ev_pos c3 (fin true)
   refine ev_neg c3 ?_
   rw [decide_eq_false c1, decide_eq_false c2, decide_eq_false c3]
   exact fin (decide (l[i].f1 > 1048576))
  ·obtain rfl : i = l.length := by omega
   obtain rfl : d = 0 := by omega
   exact ev_neg (by omega) (Ev.now _)
theorem ref_check_j (t y0 y1 y2 y3 y4 : Int) (l : List S46) (B : Bool) (hB : B = false → rangeOk y0 y1 0 1 t ∨ True) : Ev (fun k => r22_Check.j0 k t B y0 y1 y2 y3 y4 (l.map cv)) (if B = true ∨ ¬ (0 ≤ y2 ∧ y2 ≤ t) ∨ ¬ (1 ≤ y3 ∧ y3 ≤ 65536) ∨ totL y4 = 0 ∨ 64 < l.length then 220 else if goodBias t (l.map pr) l.length 0 = true then 0 else 220) := by
 have hm : (l.map cv).length = l.length := List.length_map _
 have j1 : ∀ C : Bool, (C = false → l.length ≤ 64) → Ev (fun k => r22_Check.j1 k t C y0 y1 y2 y3 y4 (l.map cv)) (if C = true then 220 else if goodBias t (l.map pr) l.length 0 = true then 0 else 220) := by
  intro C hC
  refine Ev.step (fun k => by rw [r22_Check.j1]) ?_
  cases C with
  | true => exact ev_pos rfl (by rw [if_pos rfl]; exact Ev.now _)
  | false =>
   refine ev_neg (by decide) ?_
   rw [if_neg (by decide), hm]
   exact ref_good t y0 y1 y2 y3 y4 l (hC rfl) _ 0 rfl (Nat.zero_le _)
 refine Ev.step (fun k => by rw [r22_Check.j0]) ?_
 cases B with
 | true => exact ev_pos rfl (by rw [if_pos (Or.inl rfl)]; exact Ev.now _)
 | false =>
  refine ev_neg (by decide) ?_
  have t1 := j1 true (by intro h; cases h)
  rw [if_pos rfl] at t1
  by_cases c1 : y2 < 0
  ·rw [if_pos (by omega)]; exact ev_pos c1 t1
  refine ev_neg c1 ?_
  by_cases c2 : y2 > t
  ·rw [if_pos (by omega)]; exact ev_pos c2 t1
  refine ev_neg c2 ?_
  by_cases c3 : y3 < 1
  ·rw [if_pos (by omega)]; exact ev_pos c3 t1
  refine ev_neg c3 ?_
  by_cases c4 : y3 > 65536
  ·rw [if_pos (by omega)]; exact ev_pos c4 t1
  refine ev_neg c4 (ev_is (ref_total _ y0 y1 y2 y3 y4) ?_)
  by_cases c5 : totL y4 = 0
  ·rw [if_pos (by omega)]; exact ev_pos c5 t1
  refine ev_neg c5 ?_
  have t2 := j1 (decide (((l.map cv).length : Int) > 64)) (by intro h; have := of_decide_eq_false h; omega)
  by_cases c6 : 64 < l.length
  ·rw [if_pos (Or.inr (Or.inr (Or.inr (Or.inr c6))))]
   rw [decide_eq_true (by omega), if_pos rfl] at t2
   rw [decide_eq_true (by omega)]
   exact t2
  ·rw [if_neg (by rintro (h | h | h | h | h); cases h; exact h ⟨by omega, by omega⟩; exact h ⟨by omega, by omega⟩; exact c5 h; exact c6 h)]
   rw [decide_eq_false (by omega), if_neg (by decide)] at t2
   rw [decide_eq_false (by omega)]
   exact t2
theorem ref_check (t y0 y1 y2 y3 y4 : Int) (l : List S46) : Ev (fun k => r22_Check.f k y0 y1 y2 y3 y4 (l.map cv) t) (checkL y0 y1 y2 y3 t (totL y4) (l.map pr)) := by
 have hj : ∀ k, r22_Check.f k y0 y1 y2 y3 y4 (l.map cv) t = r22_Check.j0 k t (decide (¬ ((1 ≤ t ∧ t ≤ 512) ∧ (0 ≤ y0 ∧ y0 ≤ 65536) ∧ (1 ≤ y1 ∧ y1 ≤ 65536)))) y0 y1 y2 y3 y4 (l.map cv) := by
  intro k
  unfold r22_Check.f
  by_cases c1 : t < 1
  ·rw [if_pos c1, decide_eq_true (by omega)]
  rw [if_neg c1]
  by_cases c2 : t > 512
  ·rw [if_pos c2, decide_eq_true (by omega)]
  rw [if_neg c2]
  by_cases c3 : y0 < 0
  ·rw [if_pos c3, decide_eq_true (by omega)]
  rw [if_neg c3]
  by_cases c4 : y0 > 65536
  ·rw [if_pos c4, decide_eq_true (by omega)]
  rw [if_neg c4]
  by_cases c5 : y1 < 1
  ·rw [if_pos c5, decide_eq_true (by omega)]
  rw [if_neg c5]
  congr 1
  by_cases c6 : y1 > 65536
  ·rw [decide_eq_true c6, decide_eq_true (by omega)]
  ·rw [decide_eq_false c6, decide_eq_false (by omega)]
 refine Ev.congr hj ?_
 have h := ref_check_j t y0 y1 y2 y3 y4 l (decide (¬ ((1 ≤ t ∧ t ≤ 512) ∧ (0 ≤ y0 ∧ y0 ≤ 65536) ∧ (1 ≤ y1 ∧ y1 ≤ 65536)))) (fun _ => .inr trivial)
 have e : (if decide (¬ ((1 ≤ t ∧ t ≤ 512) ∧ (0 ≤ y0 ∧ y0 ≤ 65536) ∧ (1 ≤ y1 ∧ y1 ≤ 65536))) = true ∨ ¬ (0 ≤ y2 ∧ y2 ≤ t) ∨ ¬ (1 ≤ y3 ∧ y3 ≤ 65536) ∨ totL y4 = 0 ∨ 64 < l.length then (220 : Int) else if goodBias t (l.map pr) l.length 0 = true then 0 else 220) = checkL y0 y1 y2 y3 t (totL y4) (l.map pr) := by
  unfold checkL rangeOk
  rw [List.length_map]
  simp only [decide_eq_true_eq]
  exact ite_congr (propext ⟨fun h => by omega, fun h => by omega⟩) (fun _ => rfl) (fun _ => rfl)
 rw [e] at h
 exact h
end Go.Proofs.Ythmckhfjaleomaa.Pure
namespace Go.Proofs.Ythmckhfjaleomaa.Pure
set_option linter.unusedSimpArgs false
set_option linter.unusedVariables false
set_option linter.unusedSectionVars false
open Go.RowKit Go.Proofs.YthmckhfjaleomaaW.PrintWords Go.Proofs.YthmckhfjaleomaaW.PrintLast Go.Proofs.YthmckhfjaleomaaW.PrintMore Go.Proofs.Ythmckhfjaleomaa.T Go.Proofs.Ythmckhfjaleomaa.St
def keepFrom (e : List Int) (o ps : List Int) : List Int := ps.foldl (fun o i => o.set i.toNat (e.getD i.toNat 0)) o
def keptL (e ps : List Int) : List Int := keepFrom e (List.replicate e.length 0) ps
theorem keepFrom_len (e : List Int) : ∀ (ps o : List Int), (keepFrom e o ps).length = o.length
 | [], o => rfl
 | p :: r, o => by
  show (keepFrom e (o.set p.toNat (e.getD p.toNat 0)) r).length = _
  rw [keepFrom_len e r, List.length_set]
theorem keptL_len (e ps : List Int) : (keptL e ps).length = e.length := by
 unfold keptL
 rw [keepFrom_len, List.length_replicate]
theorem kept_l (e ps : List Int) (hp : ∀ p ∈ ps, 0 ≤ p ∧ p < (e.length : Int)) (hl : ps.length < 4611686018427387904) : ∀ (d i : Nat) (o : List Int), ps.length - i = d → i ≤ ps.length → o.length = e.length →
  Ev (fun k => dist_kept.l0 k e o ps (ps.length : Int) (i : Int)) (keepFrom e o (ps.drop i))
 | d, i, o, hd, hi, ho => by
  refine Ev.step (fun k => by rw [dist_kept.l0]) ?_
  by_cases c : i < ps.length
  ·obtain ⟨d, rfl⟩ : ∃ e, d = e + 1 := ⟨d - 1, by omega⟩
   have hv := hp _ (getD_mem ps i c)
   rw [rd_nat, drop_get ps i c, w1 i (by omega)]
   refine ev_pos (by omega) (ev_pos (by omega) (ev_pos (by omega) (ev_pos hv.1 (ev_pos hv.2 (ev_pos (by rw [ho]; exact hv.2) ?_)))))
   exact kept_l e ps hp hl d (i + 1) _ (by omega) (by omega) (by rw [List.length_set]; exact ho)
  ·obtain rfl : i = ps.length := by omega
   refine ev_neg (by omega) ?_
   rw [List.drop_eq_nil_of_le (Nat.le_refl _)]
   exact Ev.now _
theorem only_l (e ps : List Int) (hp : ∀ p ∈ ps, 0 ≤ p ∧ p < (e.length : Int)) (hl : ps.length < 4611686018427387904) : ∀ (d i : Nat) (o : List Int), ps.length - i = d → i ≤ ps.length → o.length = e.length →
  Ev (fun k => r22_only.l0 k e o ps (ps.length : Int) (i : Int)) (keepFrom e o (ps.drop i))
 | d, i, o, hd, hi, ho => by
  refine Ev.step (fun k => by rw [r22_only.l0]) ?_
  by_cases c : i < ps.length
  ·obtain ⟨d, rfl⟩ : ∃ e, d = e + 1 := ⟨d - 1, by omega⟩
   have hv := hp _ (getD_mem ps i c)
   rw [rd_nat, drop_get ps i c, w1 i (by omega)]
   refine ev_pos (by omega) (ev_pos (by omega) (ev_pos (by omega) (ev_pos hv.1 (ev_pos hv.2 (ev_pos (by rw [ho]; exact hv.2) ?_)))))
   exact only_l e ps hp hl d (i + 1) _ (by omega) (by omega) (by rw [List.length_set]; exact ho)
  ·obtain rfl : i = ps.length := by omega
   refine ev_neg (by omega) ?_
   rw [List.drop_eq_nil_of_le (Nat.le_refl _)]
   exact Ev.now _
theorem kept_ev (e ps : List Int) (he : e.length ≤ 4096) (hp : ∀ p ∈ ps, 0 ≤ p ∧ p < (e.length : Int)) (hl : ps.length < 4611686018427387904) : Ev (fun k => dist_kept.f k e ps) (keptL e ps) := by
 unfold dist_kept.f
 refine ev_pos (by omega) (ev_pos (by omega) ?_)
 rw [Int.toNat_natCast]
 exact kept_l e ps hp hl _ 0 _ rfl (Nat.zero_le _) List.length_replicate
theorem only_ev (e ps : List Int) (he : e.length ≤ 4096) (hp : ∀ p ∈ ps, 0 ≤ p ∧ p < (e.length : Int)) (hl : ps.length < 4611686018427387904) : Ev (fun k => r22_only.f k e ps) (keptL e ps) := by
 unfold r22_only.f
 refine ev_pos (by omega) (ev_pos (by omega) ?_)
 rw [Int.toNat_natCast]
 exact only_l e ps hp hl _ 0 _ rfl (Nat.zero_le _) List.length_replicate
theorem orderL_in (l : List Int) : ∀ p ∈ orderL l, 0 ≤ p ∧ p < (l.length : Int) := by
 intro v hv
 rw [orderL_eq] at hv
 obtain ⟨x, hx, rfl⟩ := List.mem_map.1 hv
 have := (orderN_mem _ _).1 hx
 omega
theorem topL_in (l : List Int) (a : Int) : ∀ p ∈ topL l a, 0 ≤ p ∧ p < (l.length : Int) := by
 intro v hv
 unfold topL at hv
 split at hv
 ·exact orderL_in l v (List.mem_of_mem_take hv)
 ·exact orderL_in l v hv
theorem nucL_in (l : List Int) (a : Int) : ∀ p ∈ (nucL l a).1, 0 ≤ p ∧ p < (l.length : Int) := by
 intro v hv
 unfold nucL at hv
 split at hv
 ·cases hv
 ·split at hv
  ·cases hv
  ·exact orderL_in l v (List.mem_of_mem_take hv)
def cutL (e : List Int) (a2 : Int) : List Int := if a2 > 0 then keptL e (topL e a2) else e
theorem cutL_len (e : List Int) (a2 : Int) : (cutL e a2).length = e.length := by
 unfold cutL
 split
 ·exact keptL_len _ _
 ·rfl
def endL (e : List Int) (a3 t : Int) : List Int × Int := shareL (keptL e (nucL e a3).1) t
def finL (e : List Int) (a2 a3 t : Int) : List Int × Int := endL (cutL e a2) a3 t
theorem ev_nuc (l : List Int) (hl : l.length ≤ 4096) (a : Int) : Ev (fun k => rank_Nucleus.f k l a) (nucL l a) := ⟨10000, fun k hk => own_nuc l (by omega) a k hk⟩
theorem ev_share (l : List Int) (t : Int) : Ev (fun k => rank_Share.f k l t) (shareL l t) := ⟨10000, fun k hk => own_share l t k hk⟩
theorem ev_rnuc (l : List Int) (hl : l.length ≤ 4096) (a : Int) : Ev (fun k => r07_Nucleus.f k l a) (nucL l a) := ref_nuc l (by omega) a
theorem ev_rshare (l : List Int) (hl : l.length ≤ 4096) (t : Int) : Ev (fun k => r07_Share.f k l t) (shareL l t) := ref_share l t (by omega)
theorem ev_rtop (l : List Int) (hl : l.length ≤ 4096) (a : Int) : Ev (fun k => r07_Top.f k l a) (topL l a) := by
 obtain ⟨K, hK⟩ := ref_order l (by omega)
 exact ⟨K, fun k hk => ref_top l a k (hK k hk)⟩
theorem own_j3 (e : List Int) (he : e.length ≤ 512) (a0 a1 a2 a3 a4 : Int) (l : List S46) : Ev (fun k => dist_Weights.j3 k e a0 a1 a2 a3 a4 l) (endL e a3 (totL a4)) := by
 refine Ev.step (fun k => by rw [dist_Weights.j3]) ?_
 have hl := nucL_len e a3
 refine Ev.bind (ev_nuc e (by omega) a3) (Ev.bind (kept_ev e _ (by omega) (nucL_in e a3) (by omega)) (Ev.bind (total_ev l a0 a1 a2 a3 a4) (Ev.bind (ev_share _ _) ?_)))
 exact Ev.now _
theorem ref_j3 (e : List Int) (he : e.length ≤ 512) (a0 a1 a2 a3 a4 : Int) (l : List S74) : Ev (fun k => r22_Weights.j3 k e a0 a1 a2 a3 a4 l) (endL e a3 (totL a4)) := by
 refine Ev.step (fun k => by rw [r22_Weights.j3]) ?_
 have hl := nucL_len e a3
 refine Ev.bind (ev_rnuc e (by omega) a3) (Ev.bind (only_ev e _ (by omega) (nucL_in e a3) (by omega)) (ev_is (ref_total l a0 a1 a2 a3 a4) (Ev.bind (ev_rshare _ (by rw [keptL_len]; omega) _) ?_)))
 exact Ev.now _
theorem addB_some : ∀ (b : List (Int × Int)) (l : List Int), (∀ x ∈ b, 0 ≤ x.1 ∧ x.1 < (l.length : Int)) → ∃ s, addB l b = some s
 | [], l, h => ⟨l, rfl⟩
 | x :: r, l, h => by
  rw [addB, if_pos (h x List.mem_cons_self)]
  exact addB_some r _ (fun y hy => by rw [List.length_set]; exact h y (List.mem_cons_of_mem _ hy))
theorem good_in (t : Int) (l : List (Int × Int)) : ∀ (d i : Nat), goodBias t l d i = true → ∀ j, i ≤ j → j < i + d → 0 ≤ (l.getD j (0, 0)).1 ∧ (l.getD j (0, 0)).1 ≤ t - 1
 | 0, i, h, j, h1, h2 => by omega
 | d + 1, i, h, j, h1, h2 => by
  rw [goodBias] at h
  split at h
  ·cases h
  ·rename_i hb
   by_cases e : j = i
   ·subst e
    unfold badB at hb
    by_cases c : 0 ≤ (l.getD j (0, 0)).1 ∧ (l.getD j (0, 0)).1 ≤ t - 1
    ·exact c
    ·exfalso
     apply hb
     have : (decide (0 ≤ (l.getD j (0, 0)).1) && decide ((l.getD j (0, 0)).1 ≤ t - 1)) = false := by rw [← Bool.decide_and]; exact decide_eq_false c
     rw [this]
     rfl
   ·exact good_in t l d (i + 1) h j (by omega) (by omega)
theorem check_ok {a0 a1 a2 a3 t T : Int} {l : List (Int × Int)} (h : checkL a0 a1 a2 a3 t T l = 0) : rangeOk a0 a1 a2 a3 t ∧ T ≠ 0 ∧ l.length ≤ 64 ∧ ∀ x ∈ l, 0 ≤ x.1 ∧ x.1 < t := by
 unfold checkL at h
 split at h
 ·cases h
 ·rename_i hc
  split at h
  ·rename_i hg
   refine ⟨Decidable.byContradiction fun c => hc (Or.inl c), fun c => hc (Or.inr (Or.inl c)), by omega, ?_⟩
   intro x hx
   obtain ⟨j, hj, rfl⟩ := List.getElem_of_mem hx
   have := good_in t l _ 0 hg j (Nat.zero_le _) (by omega)
   rw [List.getD_eq_getElem?_getD, List.getElem?_eq_getElem hj] at this
   have h2 : 0 ≤ (l[j]).1 ∧ (l[j]).1 ≤ t - 1 := this
   omega
  ·cases h
theorem check_01 (a0 a1 a2 a3 t T : Int) (l : List (Int × Int)) : checkL a0 a1 a2 a3 t T l = 0 ∨ checkL a0 a1 a2 a3 t T l = 220 := by
 unfold checkL
 split
 ·exact .inr rfl
 ·split
  ·exact .inl rfl
  ·exact .inr rfl
def summed (l : List Int) (b : List (Int × Int)) : List Int := (addB l b).getD []
def heats (mask : List Bool) (a0 a1 : Int) (s : List Int) : List Int := outH (mayL mask) a0 a1 (maxM (mayL mask) s 0 true 0) s 0
theorem heats_len (mask : List Bool) (a0 a1 : Int) (s : List Int) : (heats mask a0 a1 s).length = s.length := outH_length _ _ _ _ _ _
def weightsL (l : List Int) (mask : List Bool) (a0 a1 a2 a3 a4 : Int) (b : List (Int × Int)) : List Int × Int :=
 if ¬ (1 ≤ l.length ∧ l.length ≤ 512) ∨ l.any wrongS = true then ([], 221)
 else if checkL a0 a1 a2 a3 l.length (totL a4) b ≠ 0 then ([], 220)
 else if mask.length ≠ 0 ∧ mask.length ≠ l.length then ([], 222)
 else if mask.length ≠ 0 ∧ mask.any id = false then ([], 223)
 else finL (heats mask a0 a1 (summed l b)) a2 a3 (totL a4)
theorem has_l (l : List Bool) (hl : l.length < 4611686018427387904) : ∀ (d i : Nat), l.length - i = d → i ≤ l.length → ∃ j : Int, decide (0 ≤ j) = (l.drop i).any id ∧ Ev (fun k => slices_Index_bool_bool.l0 k l true (l.length : Int) (i : Int)) j
 | d, i, hd, hi => by
  by_cases c : i < l.length
  ·obtain ⟨d, rfl⟩ : ∃ e, d = e + 1 := ⟨d - 1, by omega⟩
   have hr : rdOf false l (i : Int) = l[i] := by
    unfold rdOf
    rw [Int.toNat_natCast, List.getD_eq_getElem?_getD, List.getElem?_eq_getElem c]; rfl
   have hdr : l.drop i = l[i] :: l.drop (i + 1) := List.drop_eq_getElem_cons c
   by_cases e : l[i] = true
   ·refine ⟨i, ?_, Ev.step (fun k => by rw [slices_Index_bool_bool.l0]) ?_⟩
    ·rw [hdr, List.any_cons, e, decide_eq_true (by omega)]; rfl
    ·rw [hr, e]
     exact ev_pos (by omega) (ev_pos (by omega) (ev_pos (by omega) (ev_pos rfl (Ev.now _))))
   ·have e' : l[i] = false := by cases h : l[i] with | true => exact absurd h e | false => rfl
    obtain ⟨j, h1, h2⟩ := has_l l hl d (i + 1) (by omega) (by omega)
    refine ⟨j, ?_, Ev.step (fun k => by rw [slices_Index_bool_bool.l0]) ?_⟩
    ·rw [hdr, List.any_cons, e', h1]; rfl
    ·rw [hr, e', w1 i (by omega)]
     exact ev_pos (by omega) (ev_pos (by omega) (ev_pos (by omega) (ev_neg (by decide) h2)))
  ·obtain rfl : i = l.length := by omega
   refine ⟨-1, ?_, Ev.step (fun k => by rw [slices_Index_bool_bool.l0]) (ev_neg (by omega) (Ev.now _))⟩
   rw [List.drop_eq_nil_of_le (Nat.le_refl _)]
   rfl
theorem has_ev (l : List Bool) (hl : l.length < 4611686018427387904) : Ev (fun k => slices_Contains_bool_bool.f k l true) (l.any id) := by
 obtain ⟨j, h1, h2⟩ := has_l l hl _ 0 rfl (Nat.zero_le _)
 unfold slices_Contains_bool_bool.f slices_Index_bool_bool.f
 refine Ev.bind (a := j) h2 ?_
 have h1' : decide (j ≥ 0) = l.any id := by rw [← show l.drop 0 = l from rfl]; exact h1
 rw [h1']
 exact Ev.now _
theorem own_weights (l : List Int) (mask : List Bool) (a0 a1 a2 a3 a4 : Int) (b : List S46) (hl : l.length ≤ 17592186044416) (hm : mask.length ≤ 140737488355328) (hb : b.length ≤ 17592186044416) :
  Ev (fun k => dist_Weights.f k l mask a0 a1 a2 a3 a4 b) (weightsL l mask a0 a1 a2 a3 a4 (b.map pr)) := by
 have bad : Ev (fun k => dist_Weights.j0 k l true mask a0 a1 a2 a3 a4 b) (([] : List Int), (221 : Int)) := Ev.step (fun k => by rw [dist_Weights.j0]) (ev_pos rfl (Ev.now _))
 unfold dist_Weights.f
 have hbt : dist_between.f (l.length : Int) 1 512 = some (decide (1 ≤ l.length ∧ l.length ≤ 512)) := by
  unfold dist_between.f
  by_cases c : (l.length : Int) ≥ 1
  ·rw [if_pos c]
   congr 1
   by_cases c2 : (l.length : Int) ≤ 512
   ·rw [decide_eq_true c2, decide_eq_true (by omega)]
   ·rw [decide_eq_false c2, decide_eq_false (by omega)]
  ·rw [if_neg c, decide_eq_false (by omega)]
 refine ev_is hbt ?_
 unfold weightsL
 by_cases c : 1 ≤ l.length ∧ l.length ≤ 512
 rotate_left
 ·rw [decide_eq_false c, if_pos (Or.inl c)]
  exact ev_neg (by decide) bad
 rw [decide_eq_true c]
 refine ev_pos rfl (ev_is (show slices_ContainsFunc_int64_int64.f l = some (l.any wrongS) by unfold slices_ContainsFunc_int64_int64.f; rw [if_pos hl]) ?_)
 by_cases cw : l.any wrongS = true
 ·rw [cw, if_pos (Or.inr rfl)]
  exact bad
 have cw' : l.any wrongS = false := by cases h : l.any wrongS with | true => exact absurd h cw | false => rfl
 rw [cw', if_neg (by rintro (h | h); exact h c; cases h)]
 refine Ev.step (fun k => by rw [dist_Weights.j0]) (ev_neg (by decide) (Ev.bind (check_ev b hb a0 a1 a2 a3 a4 (l.length : Int)) ?_))
 rcases check_01 a0 a1 a2 a3 (l.length : Int) (totL a4) (b.map pr) with hc | hc
 rotate_left
 ·rw [hc, if_pos (by decide)]
  exact ev_neg (by decide) (Ev.now _)
 rw [hc, if_neg (by simp)]
 obtain ⟨⟨_, _, r1, r2, r3⟩, hT, hbl, hbi⟩ := check_ok hc
 refine ev_pos rfl ?_
 have go : (mask.length = 0 ∨ l.length ≤ mask.length) → Ev (fun k => dist_Weights.j2 k l mask a0 a1 a2 a3 a4 b) (finL (heats mask a0 a1 (summed l (b.map pr))) a2 a3 (totL a4)) := by
  intro hml
  obtain ⟨s, hs⟩ := addB_some (b.map pr) l hbi
  have hsl := addB_length _ _ _ hs
  have hh : dist_heat.f l mask a0 a1 a2 a3 a4 b = some (heats mask a0 a1 (summed l (b.map pr))) := by
   unfold dist_heat.f
   rw [if_pos ⟨by omega, hl, hb, hml, r1.1, r1.2⟩]
   unfold heatL summed heats
   rw [show (b.map fun y => (y.f0, y.f1)) = b.map pr from rfl, hs]
   rfl
  have hel : (heats mask a0 a1 (summed l (b.map pr))).length = l.length := by
   rw [heats_len]; unfold summed; rw [hs]; exact hsl
  refine Ev.step (fun k => by rw [dist_Weights.j2]) (ev_is hh ?_)
  generalize heats mask a0 a1 (summed l (b.map pr)) = e at hel
  unfold finL cutL
  by_cases c2 : a2 > 0
  ·rw [if_pos c2]
   have ht := topL_len e a2
   refine ev_pos c2 (ev_is (own_top e (by omega) a2) (Ev.bind (kept_ev e _ (by omega) (topL_in e a2) (by omega)) ?_))
   exact own_j3 _ (by rw [keptL_len]; omega) a0 a1 a2 a3 a4 b
  ·rw [if_neg c2]
   exact ev_neg c2 (own_j3 e (by omega) a0 a1 a2 a3 a4 b)
 by_cases m0 : mask.length = 0
 ·rw [if_neg (by omega), if_neg (by omega)]
  refine ev_neg (by omega) (Ev.step (fun k => by rw [dist_Weights.j1]) (ev_neg (by decide) (ev_neg (by omega) (go (Or.inl m0)))))
 refine ev_pos (by omega) (Ev.step (fun k => by rw [dist_Weights.j1]) ?_)
 by_cases m1 : mask.length = l.length
 ·rw [if_neg (by omega)]
  refine ev_neg (by rw [m1]; simp) (ev_pos (by omega) (Ev.bind (has_ev mask (by omega)) ?_))
  by_cases m2 : mask.any id = true
  ·rw [m2, if_neg (by rintro ⟨_, h⟩; cases h)]
   exact ev_pos rfl (go (Or.inr (by omega)))
  ·have m2' : mask.any id = false := by cases h : mask.any id with | true => exact absurd h m2 | false => rfl
   rw [m2', if_pos ⟨m0, rfl⟩]
   exact ev_neg (by decide) (Ev.now _)
 ·rw [if_pos ⟨m0, m1⟩]
  exact ev_pos (by rw [bne_iff_ne]; omega) (Ev.now _)
end Go.Proofs.Ythmckhfjaleomaa.Pure
namespace Go.Proofs.Ythmckhfjaleomaa.Pure
set_option linter.unusedSimpArgs false
set_option linter.unusedVariables false
set_option linter.unusedSectionVars false
open Go.RowKit Go.Proofs.YthmckhfjaleomaaW.PrintWords Go.Proofs.YthmckhfjaleomaaW.PrintLast Go.Proofs.YthmckhfjaleomaaW.PrintMore Go.Proofs.Ythmckhfjaleomaa.T Go.Proofs.Ythmckhfjaleomaa.St
theorem may_ok (mask : List Bool) (i : Nat) (h : mask.length = 0 ∨ i < mask.length) : r22_may.f mask (i : Int) = some (mayL mask i) := by
 unfold r22_may.f mayL
 by_cases c : mask.length = 0
 ·rw [if_pos (by omega), decide_eq_true c]; rfl
 ·rw [if_neg (by omega), if_pos (by omega), if_pos (by omega), decide_eq_false c]
  unfold rdOf
  rw [Int.toNat_natCast]
  rfl
theorem may_l (mask : List Bool) (n : Nat) (h : mask.length = 0 ∨ n ≤ mask.length) (hn : n ≤ 512) : ∀ (d i : Nat), n - i = d → i ≤ n → (∀ j, j < i → mayL mask j = false) →
  Ev (fun k => r22_wrong.l1 k mask (n : Int) (i : Int)) (if ∃ j, j < n ∧ mayL mask j = true then 0 else 223)
 | d, i, hd, hi, hno => by
  refine Ev.step (fun k => by rw [r22_wrong.l1]) ?_
  by_cases c : i < n
  ·obtain ⟨d, rfl⟩ : ∃ e, d = e + 1 := ⟨d - 1, by omega⟩
   refine ev_pos (by omega) (ev_is (may_ok mask i (by omega)) ?_)
   cases e : mayL mask i with
   | true =>
    rw [if_pos ⟨i, c, e⟩]
    exact ev_pos rfl (Ev.now _)
   | false =>
    rw [w1 i (by omega)]
    refine ev_neg (by decide) (may_l mask n h hn d (i + 1) (by omega) (by omega) (fun j hj => ?_))
    by_cases e2 : j = i
    ·subst e2; exact e
    ·exact hno j (by omega)
  ·obtain rfl : i = n := by omega
   rw [if_neg (by rintro ⟨j, h1, h2⟩; rw [hno j h1] at h2; cases h2)]
   exact ev_neg (by omega) (Ev.now _)
def wrongL (l : List Int) (mask : List Bool) (a0 a1 a2 a3 a4 : Int) (b : List (Int × Int)) : Int :=
 if ¬ (1 ≤ l.length ∧ l.length ≤ 512) ∨ l.any wrongS = true then 221
 else if checkL a0 a1 a2 a3 l.length (totL a4) b ≠ 0 then 220
 else if mask.length ≠ 0 ∧ mask.length ≠ l.length then 222
 else if mask.length ≠ 0 ∧ mask.any id = false then 223
 else 0
theorem any_may (mask : List Bool) (n : Nat) (hn : 1 ≤ n) (h : mask.length = 0 ∨ mask.length = n) : (∃ j, j < n ∧ mayL mask j = true) ↔ ¬ (mask.length ≠ 0 ∧ mask.any id = false) := by
 unfold mayL
 by_cases c : mask.length = 0
 ·constructor
  ·intro _ h2; exact h2.1 c
  ·intro _; exact ⟨0, by omega, by rw [decide_eq_true c]; rfl⟩
 ·constructor
  ·rintro ⟨j, h1, h2⟩ ⟨_, h3⟩
   rw [decide_eq_false c, Bool.false_or] at h2
   have hj : j < mask.length := by omega
   rw [List.getD_eq_getElem?_getD, List.getElem?_eq_getElem hj] at h2
   have h2' : mask[j] = true := h2
   have := List.any_eq_false.1 h3 mask[j] (List.getElem_mem _)
   rw [h2'] at this
   exact this rfl
  ·intro h2
   have h3 : mask.any id = true := by
    cases e : mask.any id with
    | true => rfl
    | false => exact (h2 ⟨c, e⟩).elim
   obtain ⟨x, hx, hx2⟩ := List.any_eq_true.1 h3
   obtain ⟨j, hj, rfl⟩ := List.getElem_of_mem hx
   refine ⟨j, by omega, ?_⟩
   rw [List.getD_eq_getElem?_getD, List.getElem?_eq_getElem hj]
   have : mask[j] = true := hx2
   simp [this]
theorem wrong_l (l : List Int) (mask : List Bool) (a0 a1 a2 a3 a4 : Int) (b : List S46) (h1 : 1 ≤ l.length) (h2 : l.length ≤ 512) : ∀ (d i : Nat), l.length - i = d → i ≤ l.length → (∀ j, j < i → wrongS (l.getD j 0) = false) →
  Ev (fun k => r22_wrong.l0 k l mask l (l.length : Int) (i : Int) a0 a1 a2 a3 a4 (b.map cv)) (wrongL l mask a0 a1 a2 a3 a4 (b.map pr))
 | d, i, hd, hi, hno => by
  refine Ev.step (fun k => by rw [r22_wrong.l0]) ?_
  by_cases c : i < l.length
  ·obtain ⟨d, rfl⟩ : ∃ e, d = e + 1 := ⟨d - 1, by omega⟩
   have hgi : l.getD i 0 = l[i] := by rw [List.getD_eq_getElem?_getD, List.getElem?_eq_getElem c]; rfl
   have bad : wrongS (l.getD i 0) = true → wrongL l mask a0 a1 a2 a3 a4 (b.map pr) = 221 := by
    intro h
    unfold wrongL
    rw [if_pos (Or.inr (List.any_eq_true.2 ⟨l[i], List.getElem_mem _, by rw [← hgi]; exact h⟩))]
   refine ev_pos (by omega) (ev_pos (by omega) (ev_pos (by omega) ?_))
   rw [rd_nat]
   by_cases c1 : l.getD i 0 < -1073741824
   ·rw [bad (by unfold wrongS; rw [decide_eq_true c1]; rfl)]
    exact ev_pos c1 (Ev.now _)
   by_cases c2 : l.getD i 0 > 1073741824
   ·rw [bad (by unfold wrongS; rw [decide_eq_true c2]; simp)]
    exact ev_neg c1 (ev_pos c2 (Ev.now _))
   rw [w1 i (by omega)]
   refine ev_neg c1 (ev_neg c2 (wrong_l l mask a0 a1 a2 a3 a4 b h1 h2 d (i + 1) (by omega) (by omega) (fun j hj => ?_)))
   by_cases e2 : j = i
   ·subst e2; unfold wrongS; rw [decide_eq_false c1, decide_eq_false c2]; rfl
   ·exact hno j (by omega)
  ·obtain rfl : i = l.length := by omega
   have hany : l.any wrongS = false := by
    rw [List.any_eq_false]
    intro x hx
    obtain ⟨j, hj, rfl⟩ := List.getElem_of_mem hx
    have := hno j hj
    rw [List.getD_eq_getElem?_getD, List.getElem?_eq_getElem hj] at this
    have h3 : wrongS l[j] = false := this
    rw [h3]; decide
   unfold wrongL
   rw [if_neg (by rintro (h | h); exact h ⟨h1, h2⟩; rw [hany] at h; cases h)]
   refine ev_neg (by omega) (Ev.bind (ref_check (l.length : Int) a0 a1 a2 a3 a4 b) ?_)
   rcases check_01 a0 a1 a2 a3 (l.length : Int) (totL a4) (b.map pr) with hc | hc
   rotate_left
   ·rw [hc, if_pos (by decide)]
    exact ev_neg (by decide) (Ev.now _)
   rw [hc, if_neg (by simp)]
   refine ev_pos rfl ?_
   have go : (mask.length = 0 ∨ mask.length = l.length) → Ev (fun k => r22_wrong.j2 k l mask false) (if mask.length ≠ 0 ∧ mask.any id = false then 223 else 0) := by
    intro hm
    refine Ev.step (fun k => by rw [r22_wrong.j2]) (ev_neg (by decide) ?_)
    have h := may_l mask l.length (by omega) h2 _ 0 rfl (Nat.zero_le _) (fun j hj => by omega)
    have hi := any_may mask l.length h1 hm
    by_cases c : mask.length ≠ 0 ∧ mask.any id = false
    ·rw [if_neg (fun h => hi.1 h c)] at h
     rw [if_pos c]
     exact h
    ·rw [if_pos (hi.2 c)] at h
     rw [if_neg c]
     exact h
   by_cases m0 : mask.length = 0
   ·rw [if_neg (by omega)]
    exact ev_pos (by omega) (go (Or.inl m0))
   refine ev_neg (by omega) ?_
   by_cases m1 : mask.length = l.length
   ·rw [if_neg (by omega)]
    rw [show ((mask.length : Int) != (l.length : Int)) = false by rw [m1]; simp]
    exact go (Or.inr m1)
   ·rw [if_pos ⟨m0, m1⟩]
    rw [show ((mask.length : Int) != (l.length : Int)) = true by rw [bne_iff_ne]; omega]
    exact Ev.step (fun k => by rw [r22_wrong.j2]) (ev_pos rfl (Ev.now _))
theorem wrong_ev (l : List Int) (mask : List Bool) (a0 a1 a2 a3 a4 : Int) (b : List S46) : Ev (fun k => r22_wrong.f k l mask a0 a1 a2 a3 a4 (b.map cv)) (wrongL l mask a0 a1 a2 a3 a4 (b.map pr)) := by
 have hj : ∀ k, r22_wrong.f k l mask a0 a1 a2 a3 a4 (b.map cv) = r22_wrong.j0 k l mask (decide (¬ (1 ≤ l.length ∧ l.length ≤ 512))) a0 a1 a2 a3 a4 (b.map cv) := by
  intro k
  unfold r22_wrong.f
  by_cases c : (l.length : Int) = 0
  ·rw [if_pos c, decide_eq_true (by omega)]
  ·rw [if_neg c]
   congr 1
   by_cases c2 : (l.length : Int) > 512
   ·rw [decide_eq_true c2, decide_eq_true (by omega)]
   ·rw [decide_eq_false c2, decide_eq_false (by omega)]
 refine Ev.congr hj (Ev.step (fun k => by rw [r22_wrong.j0]) ?_)
 by_cases c : 1 ≤ l.length ∧ l.length ≤ 512
 ·rw [decide_eq_false (by omega)]
  exact ev_neg (by decide) (wrong_l l mask a0 a1 a2 a3 a4 b c.1 c.2 _ 0 rfl (Nat.zero_le _) (fun j hj => by omega))
 ·rw [decide_eq_true c]
  unfold wrongL
  rw [if_pos (Or.inl c)]
  exact ev_pos rfl (Ev.now _)
theorem floor_r (x d : Int) (h1 : -9223372036854775808 ≤ x) (h2 : x ≤ 9223372036854775807) (hd : 1 ≤ d) (hd2 : d ≤ 65536) : r02_Floor.f x d = some (x / d, x % d, 0) := dist_heat.floor x d h1 h2 hd hd2
theorem halves : ∀ (d i : Nat) (n c : Int), n - (i : Int) = d → 0 ≤ c → c ≤ 9223372036854775807 → i ≤ 100 → n ≤ 100 → Ev (fun k => r02_Exp2.l0 k n c (i : Int)) (c / 2 ^ d)
 | 0, i, n, c, hd, h0, h1, hi, hn => by
  refine Ev.step (fun k => by rw [r02_Exp2.l0]) (ev_neg (by omega) ?_)
  rw [Int.pow_zero, Int.ediv_one]
  exact Ev.now _
 | d + 1, i, n, c, hd, h0, h1, hi, hn => by
  refine Ev.step (fun k => by rw [r02_Exp2.l0]) (ev_pos (by omega) ?_)
  rw [Int.tdiv_eq_ediv_of_nonneg h0, w64 (by omega) (by omega), w1 i (by omega)]
  have h := halves d (i + 1) n (c / 2) (by omega) (by omega) (by omega) (by omega) hn
  have e : c / 2 ^ (d + 1) = c / 2 / 2 ^ d := by
   rw [Int.pow_succ, Int.mul_comm, Int.ediv_ediv_of_nonneg (by omega)]
  rw [e]
  exact h
theorem exp_ev (x : Int) (h1 : -9223372036854775808 ≤ x) (h2 : x ≤ 9223372036854775807) : Ev (fun k => r02_Exp2.f k x) (expF x) := by
 have hj : ∀ k, r02_Exp2.f k x = r02_Exp2.j0 k (min x 0) := by
  intro k
  unfold r02_Exp2.f
  by_cases c : x > 0
  ·rw [if_pos c, Int.min_eq_right (by omega)]
  ·rw [if_neg c, Int.min_eq_left (by omega)]
 refine Ev.congr hj (Ev.step (fun k => by rw [r02_Exp2.j0]) (ev_is (floor_r (min x 0) 65536 (by omega) (by omega) (by omega) (by omega)) ?_))
 unfold expF
 generalize hm : min x 0 = m
 have hm0 : m ≤ 0 := by omega
 have hm1 : -9223372036854775808 ≤ m := by omega
 have hn : wrap64 (-(m / 65536)) = -(m / 65536) := w64 (by omega) (by omega)
 show Ev (fun k => if wrap64 (-(m / 65536)) ≥ 31 then some 0 else r02_Exp2.l0 k (wrap64 (-(m / 65536))) (wrap64 (1073741824 + wrap64 (Int.tdiv (wrap64 (wrap64 (747400624 + wrap64 (Int.tdiv (wrap64 (wrap64 (241400000 + wrap64 (Int.tdiv (wrap64 (84941200 * (m % 65536))) 65536)) * (m % 65536))) 65536)) * (m % 65536))) 65536))) 0) _
 rw [hn]
 by_cases c : m / 65536 ≤ -31
 ·rw [if_pos c]
  exact ev_pos (by omega) (Ev.now _)
 ·rw [if_neg c]
  refine ev_neg (by omega) ?_
  have ht : 0 ≤ m % 65536 ∧ m % 65536 < 65536 := by omega
  have s1 := step_bounds 241400000 84941200 (m % 65536) 84941200 (by omega) ht
  have s2 := step_bounds 747400624 (stepF 241400000 84941200 (m % 65536)) (m % 65536) 326341200 (by omega) ht
  have s3 := step_bounds 1073741824 (stepF 747400624 (stepF 241400000 84941200 (m % 65536)) (m % 65536)) (m % 65536) 1073741824 (by omega) ht
  have e1 : wrap64 (241400000 + wrap64 (Int.tdiv (wrap64 (84941200 * (m % 65536))) 65536)) = stepF 241400000 84941200 (m % 65536) := by
   have q := s1.2.2
   unfold stepF at q ⊢
   rw [w64 (x := 84941200 * (m % 65536)) (by omega) (by omega), w64 (x := Int.tdiv (84941200 * (m % 65536)) 65536) (by omega) (by omega), w64 (by omega) (by omega)]
  rw [e1]
  have e2 : wrap64 (747400624 + wrap64 (Int.tdiv (wrap64 (stepF 241400000 84941200 (m % 65536) * (m % 65536))) 65536)) = stepF 747400624 (stepF 241400000 84941200 (m % 65536)) (m % 65536) := by
   have q := s2.2.2
   generalize stepF 241400000 84941200 (m % 65536) = y at *
   unfold stepF at q ⊢
   rw [w64 (x := y * (m % 65536)) (by omega) (by omega), w64 (x := Int.tdiv (y * (m % 65536)) 65536) (by omega) (by omega), w64 (by omega) (by omega)]
  rw [e2]
  have e3 : wrap64 (1073741824 + wrap64 (Int.tdiv (wrap64 (stepF 747400624 (stepF 241400000 84941200 (m % 65536)) (m % 65536) * (m % 65536))) 65536)) = expY (m % 65536) := by
   have q := s3.2.2
   unfold expY
   generalize stepF 747400624 (stepF 241400000 84941200 (m % 65536)) (m % 65536) = y at *
   unfold stepF at q ⊢
   rw [w64 (x := y * (m % 65536)) (by omega) (by omega), w64 (x := Int.tdiv (y * (m % 65536)) 65536) (by omega) (by omega), w64 (by omega) (by omega)]
  rw [e3]
  have hy : 1073741824 ≤ expY (m % 65536) ∧ expY (m % 65536) ≤ 2147483648 := by
   have q := s3.2.2
   show _ ≤ stepF _ _ _ ∧ stepF _ _ _ ≤ _
   omega
  obtain ⟨d, hd⟩ : ∃ d : Nat, -(m / 65536) = (d : Int) := ⟨(-(m / 65536)).toNat, by omega⟩
  rw [hd, Int.toNat_natCast]
  exact halves d 0 (d : Int) _ (by omega) (by omega) (by omega) (by omega) (by omega)
section
variable (mask : List Bool) (n : Nat) (hn : n ≤ 512) (hm : mask.length = 0 ∨ n ≤ mask.length) (a0 a1 a2 a3 a4 : Int) (ha : 1 ≤ a1 ∧ a1 ≤ 65536) (B : List S74)
include hn hm ha
theorem ref_l2_ev (m : Int) (s : List Int) (hs : s.length = n) : ∀ (d i : Nat) (o : List Int), n - i = d → i ≤ n → o.length = n → (∀ j, i ≤ j → o.getD j 0 = 0) → o.take i ++ outH (mayL mask) a0 a1 m (s.drop i) i = outH (mayL mask) a0 a1 m s 0 →
  Ev (fun k => r22_Weights.l2 k mask m o s (n : Int) (i : Int) a0 a1 a2 a3 a4 B) (finL (outH (mayL mask) a0 a1 m s 0) a2 a3 (totL a4))
 | d, i, o, hd, hi, ho, hz, he => by
  refine Ev.step (fun k => by rw [r22_Weights.l2]) ?_
  by_cases c : i < n
  ·obtain ⟨d, rfl⟩ : ∃ e, d = e + 1 := ⟨d - 1, by omega⟩
   have hio : i < o.length := by omega
   rw [drop_get s i (by omega), outH] at he
   rw [rd_nat, w1 i (by omega)]
   refine ev_pos (by omega) (ev_pos (by omega) (ev_pos (by omega) (ev_is (may_ok mask i (by omega)) ?_)))
   cases e : mayL mask i with
   | false =>
    refine ev_neg (by decide) (ref_l2_ev m s hs d (i + 1) o (by omega) (by omega) ho (fun j hj => hz j (by omega)) ?_)
    rw [e, if_neg (by decide)] at he
    rw [List.take_succ_eq_append_getElem hio]
    have hz' := hz i (Nat.le_refl _)
    rw [List.getD_eq_getElem?_getD, List.getElem?_eq_getElem hio] at hz'
    have hz2 : o[i] = 0 := hz'
    rw [hz2, List.append_assoc]
    exact he
   | true =>
    have hr : ∀ v : Int, -9223372036854775808 ≤ wrap64 v ∧ wrap64 v ≤ 9223372036854775807 := fun v => by unfold wrap64; omega
    refine ev_pos rfl (ev_is (floor_r _ a1 (hr _).1 (hr _).2 ha.1 ha.2) (Ev.bind (exp_ev _ (hr _).1 (hr _).2) (ev_pos (by omega) ?_)))
    rw [e, if_pos rfl] at he
    refine ref_l2_ev m s hs d (i + 1) _ (by omega) (by omega) (by rw [List.length_set]; exact ho) (fun j hj => ?_) ?_
    ·rw [List.getD_eq_getElem?_getD, Int.toNat_natCast, List.getElem?_set_ne (by omega)]
     have := hz j (by omega)
     rw [List.getD_eq_getElem?_getD] at this
     exact this
    ·rw [Int.toNat_natCast, List.take_succ_eq_append_getElem (by rw [List.length_set]; exact hio), List.getElem_set_self, List.take_set_of_le (Nat.le_refl _), List.append_assoc]
     exact he
  ·obtain rfl : i = n := by omega
   rw [List.drop_eq_nil_of_le (by omega), outH, List.append_nil, List.take_of_length_le (by omega)] at he
   rw [← he]
   refine ev_neg (by omega) ?_
   unfold finL cutL
   by_cases c2 : a2 > 0
   ·rw [if_pos c2]
    have ht := topL_len o a2
    refine ev_pos c2 (Ev.bind (ev_rtop o (by omega) a2) (Ev.bind (only_ev o _ (by omega) (topL_in o a2) (by omega)) ?_))
    exact ref_j3 _ (by rw [keptL_len]; omega) a0 a1 a2 a3 a4 B
   ·rw [if_neg c2]
    exact ev_neg c2 (ref_j3 o (by omega) a0 a1 a2 a3 a4 B)
theorem ref_l1_ev (s : List Int) (hs : s.length = n) : ∀ (d i : Nat) (f : Bool) (m : Int), n - i = d → i ≤ n → maxM (mayL mask) (s.drop i) i (!f) m = maxM (mayL mask) s 0 true 0 →
  Ev (fun k => r22_Weights.l1 k mask s m f s (n : Int) (i : Int) a0 a1 a2 a3 a4 B) (finL (heats mask a0 a1 s) a2 a3 (totL a4))
 | d, i, f, m, hd, hi, he => by
  refine Ev.step (fun k => by rw [r22_Weights.l1]) ?_
  by_cases c : i < n
  ·obtain ⟨d, rfl⟩ : ∃ e, d = e + 1 := ⟨d - 1, by omega⟩
   rw [drop_get s i (by omega), maxM] at he
   rw [rd_nat, w1 i (by omega)]
   refine ev_pos (by omega) (ev_pos (by omega) (ev_pos (by omega) (ev_is (may_ok mask i (by omega)) ?_)))
   cases e : mayL mask i with
   | false =>
    rw [if_neg (by rw [e]; simp)] at he
    exact ev_neg (by decide) (ref_l1_ev s hs d (i + 1) f m (by omega) (by omega) he)
   | true =>
    refine ev_pos rfl ?_
    cases f with
    | false =>
     rw [if_pos ⟨e, Or.inl rfl⟩] at he
     exact ev_neg (by decide) (ref_l1_ev s hs d (i + 1) true _ (by omega) (by omega) he)
    | true =>
     refine ev_pos rfl ?_
     by_cases g : s.getD i 0 > m
     ·rw [if_pos ⟨e, Or.inr g⟩] at he
      exact ev_pos g (ref_l1_ev s hs d (i + 1) true _ (by omega) (by omega) he)
     ·rw [if_neg (by rintro ⟨_, h | h⟩; cases h; exact g h)] at he
      exact ev_neg g (ref_l1_ev s hs d (i + 1) true m (by omega) (by omega) he)
  ·obtain rfl : i = n := by omega
   rw [List.drop_eq_nil_of_le (by omega), maxM] at he
   subst he
   rw [hs]
   refine ev_neg (by omega) (ev_pos (by omega) (ev_pos (by omega) ?_))
   rw [Int.toNat_natCast]
   exact ref_l2_ev mask i hn hm a0 a1 a2 a3 a4 ha B _ s hs _ 0 _ rfl (Nat.zero_le _) List.length_replicate (by intro j _; simp [List.getD_eq_getElem?_getD, List.getElem?_replicate]; split <;> rfl) rfl
theorem ref_l0_ev (b : List S46) (hb : b.length ≤ 64) (s0 : List Int) : ∀ (d i : Nat) (s : List Int), b.length - i = d → i ≤ b.length → s.length = n → addB s ((b.drop i).map pr) = some s0 →
  Ev (fun k => r22_Weights.l0 k mask s (b.map cv) (b.length : Int) (i : Int) a0 a1 a2 a3 a4 B) (finL (heats mask a0 a1 s0) a2 a3 (totL a4))
 | d, i, s, hd, hi, hs, he => by
  refine Ev.step (fun k => by rw [r22_Weights.l0]) ?_
  have hml : (b.map cv).length = b.length := List.length_map _
  by_cases c : i < b.length
  ·obtain ⟨d, rfl⟩ : ∃ e, d = e + 1 := ⟨d - 1, by omega⟩
   rw [List.drop_eq_getElem_cons c, List.map_cons, addB] at he
   split at he
   ·rename_i hin
    have hr : rd_T74 (b.map cv) (i : Int) = cv b[i] := by rw [rd74 _ i (by omega), List.getElem_map]
    rw [hr, w1 i (by omega)]
    exact ev_pos (by omega) (ev_pos (by omega) (ev_pos (by omega) (ev_pos hin.1 (ev_pos hin.2 (ref_l0_ev b hb s0 d (i + 1) _ (by omega) (by omega) (by rw [List.length_set]; exact hs) he)))))
   ·cases he
  ·obtain rfl : i = b.length := by omega
   rw [List.drop_eq_nil_of_le (Nat.le_refl _), List.map_nil, addB] at he
   injection he with he
   subst he
   refine ev_neg (by omega) ?_
   rw [hs]
   exact ref_l1_ev mask n hn hm a0 a1 a2 a3 a4 ha B s hs _ 0 false 0 rfl (Nat.zero_le _) rfl
end
theorem ref_weights (l : List Int) (mask : List Bool) (a0 a1 a2 a3 a4 : Int) (b : List S46) (hl : l.length < 17592186044416) : Ev (fun k => r22_Weights.f k l mask a0 a1 a2 a3 a4 (b.map cv)) (weightsL l mask a0 a1 a2 a3 a4 (b.map pr)) := by
 unfold r22_Weights.f
 refine Ev.bind (wrong_ev l mask a0 a1 a2 a3 a4 b) ?_
 unfold wrongL weightsL
 by_cases c1 : ¬ (1 ≤ l.length ∧ l.length ≤ 512) ∨ l.any wrongS = true
 ·rw [if_pos c1, if_pos c1]; exact ev_neg (by decide) (Ev.now _)
 rw [if_neg c1, if_neg c1]
 by_cases c2 : checkL a0 a1 a2 a3 l.length (totL a4) (b.map pr) ≠ 0
 ·rw [if_pos c2, if_pos c2]; exact ev_neg (by decide) (Ev.now _)
 rw [if_neg c2, if_neg c2]
 by_cases c3 : mask.length ≠ 0 ∧ mask.length ≠ l.length
 ·rw [if_pos c3, if_pos c3]; exact ev_neg (by decide) (Ev.now _)
 rw [if_neg c3, if_neg c3]
 by_cases c4 : mask.length ≠ 0 ∧ mask.any id = false
 ·rw [if_pos c4, if_pos c4]; exact ev_neg (by decide) (Ev.now _)
 rw [if_neg c4, if_neg c4]
 have hc : checkL a0 a1 a2 a3 l.length (totL a4) (b.map pr) = 0 := Decidable.byContradiction c2
 obtain ⟨⟨_, _, r1, r2, r3⟩, hT, hbl, hbi⟩ := check_ok hc
 obtain ⟨s, hs⟩ := addB_some (b.map pr) l hbi
 have hsl := addB_length _ _ _ hs
 have hbl' : b.length ≤ 64 := by rw [List.length_map] at hbl; exact hbl
 have c1' : 1 ≤ l.length ∧ l.length ≤ 512 := Decidable.byContradiction fun h => c1 (Or.inl h)
 refine ev_pos rfl (ev_some (ev_pos (by simp; omega) ?_))
 rw [List.nil_append]
 unfold summed
 rw [hs, show ((b.map cv).length : Int) = (b.length : Int) by rw [List.length_map]]
 exact ref_l0_ev mask l.length c1'.2 (by omega) a0 a1 a2 a3 a4 r1 (b.map cv) b hbl' s _ 0 l rfl (Nat.zero_le _) rfl hs
end Go.Proofs.Ythmckhfjaleomaa.Pure
namespace Go.Proofs.Ythmckhfjaleomaa.Pure
set_option linter.unusedSimpArgs false
set_option linter.unusedVariables false
open Go.RowKit Go.Proofs.YthmckhfjaleomaaW.PrintWords Go.Proofs.YthmckhfjaleomaaW.PrintLast Go.Proofs.YthmckhfjaleomaaW.PrintMore Go.Proofs.Ythmckhfjaleomaa.T Go.Proofs.Ythmckhfjaleomaa.St
instance (l : List Int) : DecidableRel (Ahead l) := fun a b => by unfold Ahead; infer_instance
theorem order_a : orderL [1073741824, 536870912] = [0, 1] := by
 have h : orderN [1073741824, 536870912] = [0, 1] := order_unique [1073741824, 536870912] _ _ ((orderN_spec [1073741824, 536870912]).1.trans (by decide)) (orderN_spec [1073741824, 536870912]).2 (by decide)
 rw [orderL_eq, h]
 rfl
theorem share_a : shareL [1073741824, 536870912] 4 = ([3, 1], 0) := by
 have hs : sumL [1073741824, 536870912] = (1610612736, 0) := by decide +kernel
 have hr : rests [1073741824, 536870912] 4 1610612736 = [1073741824, 536870912] := by decide +kernel
 unfold shareL
 rw [hs]
 show (if (4 : Int) < 1 ∨ 4 > 4294967296 then ([], 1) else if (0 : Int) ≠ 0 then ([], 0) else (bump (quos [1073741824, 536870912] 4 1610612736) ((orderL (rests [1073741824, 536870912] 4 1610612736)).take (missing [1073741824, 536870912] 4 1610612736).toNat), 0)) = _
 rw [hr, order_a]
 decide +kernel
theorem nuc_a : nucL [1073741824, 536870912] 65536 = ([0, 1], 0) := by
 have hs : sumL [1073741824, 536870912] = (1610612736, 0) := by decide +kernel
 unfold nucL
 rw [hs, order_a]
 decide +kernel
theorem weights_a : weightsL [256, 0] [] 1 1 0 65536 2 [] = ([3, 1], 0) := by
 have h1 : heats [] 1 1 (summed [256, 0] []) = [1073741824, 536870912] := by decide +kernel
 have h2 : checkL 1 1 0 65536 (([256, 0] : List Int).length : Int) (totL 2) [] = 0 := by decide +kernel
 have h3 : ([256, 0] : List Int).any wrongS = false := by decide +kernel
 unfold weightsL
 rw [h3, h2, h1, if_neg (by simp), if_neg (by simp), if_neg (by simp), if_neg (by simp)]
 unfold finL endL
 rw [show cutL [1073741824, 536870912] 0 = [1073741824, 536870912] by unfold cutL; rw [if_neg (by omega)], nuc_a, show keptL [1073741824, 536870912] [0, 1] = [1073741824, 536870912] by decide +kernel, show totL 2 = 4 by decide, share_a]
theorem awake : Ev (fun k => w22_awake.f k) true := by
 unfold w22_awake.f
 have h := own_weights [256, 0] [] 1 1 0 65536 2 [] (by decide) (by decide) (by decide)
 rw [show ([] : List S46).map pr = [] from rfl, weights_a] at h
 refine Ev.bind h ?_
 exact ev_pos rfl (ev_pos (by decide) (ev_pos (by decide) (ev_pos (by decide) (ev_pos (by decide) (by
  rw [show (rd ([3, 1] : List Int) 1 == 1) = true by decide]
  exact Ev.now _)))))
theorem same_l (l : List Int) (hl : l.length < 4611686018427387904) : ∀ (d i : Nat), l.length - i = d → i ≤ l.length → Ev (fun k => w22_same.l0 k l l (l.length : Int) (i : Int)) true
 | d, i, hd, hi => by
  refine Ev.step (fun k => by rw [w22_same.l0]) ?_
  by_cases c : i < l.length
  ·obtain ⟨d, rfl⟩ : ∃ e, d = e + 1 := ⟨d - 1, by omega⟩
   rw [w1 i (by omega)]
   exact ev_pos (by omega) (ev_pos (by omega) (ev_pos (by omega) (ev_pos (by omega) (ev_pos rfl (same_l l hl d (i + 1) (by omega) (by omega))))))
  ·exact ev_neg (by omega) (Ev.now _)
theorem same_ev (l : List Int) (hl : l.length < 4611686018427387904) : Ev (fun k => w22_same.f k l l) true := by
 unfold w22_same.f
 exact ev_pos rfl (same_l l hl _ 0 rfl (Nat.zero_le _))
theorem weightsL_len (l : List Int) (mask : List Bool) (a0 a1 a2 a3 a4 : Int) (b : List (Int × Int)) : (weightsL l mask a0 a1 a2 a3 a4 b).1.length ≤ 512 := by
 unfold weightsL
 split
 ·exact Nat.zero_le _
 ·rename_i c1
  split
  ·exact Nat.zero_le _
  ·rename_i c2
   split
   ·exact Nat.zero_le _
   ·split
    ·exact Nat.zero_le _
    ·have hc : checkL a0 a1 a2 a3 l.length (totL a4) b = 0 := Decidable.byContradiction c2
     obtain ⟨_, _, _, hbi⟩ := check_ok hc
     obtain ⟨s, hs⟩ := addB_some b l hbi
     have hsl := addB_length _ _ _ hs
     unfold finL endL
     have h := length_share (keptL (cutL (heats mask a0 a1 (summed l b)) a2) (nucL (cutL (heats mask a0 a1 (summed l b)) a2) a3).1) (totL a4)
     rw [keptL_len, cutL_len, heats_len] at h
     unfold summed at h ⊢
     rw [hs] at h ⊢
     have h' : (shareL (keptL (cutL (heats mask a0 a1 s) a2) (nucL (cutL (heats mask a0 a1 s) a2) a3).1) (totL a4)).1.length ≤ s.length := h
     have : 1 ≤ l.length ∧ l.length ≤ 512 := Decidable.byContradiction fun h => c1 (Or.inl h)
     show (shareL (keptL (cutL (heats mask a0 a1 s) a2) (nucL (cutL (heats mask a0 a1 s) a2) a3).1) (totL a4)).1.length ≤ 512
     omega
end Go.Proofs.Ythmckhfjaleomaa.Pure
