/- rank and its reference compute the same order, sum and shares. -/
import Derived.Test.YtfegaffcalpmbaaA4
import Derived.Test.YtfegaffcalpmbaaSharePlain
namespace Go.Proofs.Ytfegaffcalpmbaa.Pure
set_option linter.unusedSimpArgs false
set_option linter.unusedVariables false
open Go.RowKit Go.Proofs.YtfegaffcalpmbaaW.PrintWords Go.Proofs.YtfegaffcalpmbaaW.PrintLast Go.Proofs.YtfegaffcalpmbaaW.PrintMore Go.Proofs.Ytfegaffcalpmbaa.A Go.Proofs.Ytfegaffcalpmbaa.St

theorem w64 {x : Int} (h1 : -9223372036854775808 ≤ x) (h2 : x < 9223372036854775808) : wrap64 x = x := by unfold wrap64; omega
theorem rd_nat (l : List Int) (i : Nat) : rd l (i : Int) = l.getD i 0 := by unfold rd; rw [Int.toNat_natCast]
theorem drop_get (l : List Int) (i : Nat) (h : i < l.length) : l.drop i = l.getD i 0 :: l.drop (i + 1) := by
  rw [List.drop_eq_getElem_cons h, List.getD_eq_getElem?_getD, List.getElem?_eq_getElem h]; rfl

/-! ### sums -/
theorem own_sum_l (l : List Int) : ∀ (d i : Nat) (acc : Int), l.length - i = d → i ≤ l.length → l.length ≤ 4096 → 0 ≤ acc → acc ≤ 1073741824 * (i : Int) → ∀ k, d + 1 ≤ k →
    rank_sum.l0 k acc l (l.length : Int) (i : Int) = some (sumFrom (l.drop i) acc)
  | d, i, acc, hd, hi, hl, h0, h1, 0, hk => by omega
  | d, i, acc, hd, hi, hl, h0, h1, k + 1, hk => by
    rw [rank_sum.l0]
    by_cases c : i < l.length
    · have cz : (i : Int) < (l.length : Int) := by omega
      rw [if_pos cz, if_pos (by omega), if_pos cz, rd_nat, drop_get l i c, sumFrom]
      by_cases c1 : l.getD i 0 < 0
      · rw [if_pos c1, if_pos c1]
      · rw [if_neg c1, if_neg c1]
        by_cases c2 : l.getD i 0 > 1073741824
        · rw [if_pos c2, if_pos c2]
        · rw [if_neg c2, if_neg c2, w64 (by omega) (by omega), w64 (by omega) (by omega)]
          exact own_sum_l l (l.length - (i + 1)) (i + 1) _ rfl (by omega) hl (by omega) (by omega) k (by omega)
    · rw [if_neg (by omega), List.drop_eq_nil_of_le (by omega), sumFrom]
      by_cases c1 : acc = 0
      · rw [if_pos c1, if_pos c1]
      · rw [if_neg c1, if_neg c1]
theorem own_sum (l : List Int) (k : Nat) (hk : 5000 ≤ k) : rank_sum.f k l = some (sumL l) := by
  rw [rank_sum.f, sumL]
  by_cases c : 4096 < l.length
  · rw [if_pos c, if_pos (by omega)]
  · rw [if_neg c, if_neg (by omega)]
    exact own_sum_l l _ 0 0 rfl (Nat.zero_le _) (by omega) (Int.le_refl _) (by omega) k (by omega)
theorem ref_sum_l (l : List Int) : ∀ (d i : Nat) (acc : Int), l.length - i = d → i ≤ l.length → l.length ≤ 4096 → 0 ≤ acc → acc ≤ 1073741824 * (i : Int) → ∀ k, d + 1 ≤ k →
    r07_sum.l0 k l acc (i : Int) = some (sumFrom (l.drop i) acc)
  | d, i, acc, hd, hi, hl, h0, h1, 0, hk => by omega
  | d, i, acc, hd, hi, hl, h0, h1, k + 1, hk => by
    rw [r07_sum.l0]
    by_cases c : i < l.length
    · have cz : (i : Int) < (l.length : Int) := by omega
      rw [if_pos cz, if_pos (by omega), rd_nat, drop_get l i c, sumFrom]
      by_cases c1 : l.getD i 0 < 0
      · rw [if_pos c1, if_pos c1]
      · rw [if_neg c1, if_neg c1]
        by_cases c2 : l.getD i 0 > 1073741824
        · rw [if_pos c2, if_pos c2]
        · rw [if_neg c2, if_neg c2, w64 (by omega) (by omega), w64 (by omega) (by omega)]
          exact ref_sum_l l (l.length - (i + 1)) (i + 1) _ rfl (by omega) hl (by omega) (by omega) k (by omega)
    · rw [if_neg (by omega), List.drop_eq_nil_of_le (by omega), sumFrom]
      by_cases c1 : acc = 0
      · rw [if_pos c1, if_pos c1]
      · rw [if_neg c1, if_neg c1]
theorem ref_sum (l : List Int) (k : Nat) (hk : 5000 ≤ k) : r07_sum.f k l = some (sumL l) := by
  rw [r07_sum.f, sumL]
  by_cases c : 4096 < l.length
  · rw [if_pos c, if_pos (by omega)]
  · rw [if_neg c, if_neg (by omega)]
    exact ref_sum_l l _ 0 0 rfl (Nat.zero_le _) (by omega) (Int.le_refl _) (by omega) k (by omega)

/-! ### orders -/
theorem own_order (l : List Int) (h : l.length ≤ 17592186044416) : rank_Order.f l = some (orderL l) := by rw [rank_Order.f, if_pos h]

/-- where the i-th goes among o's first p. -/
def find (l : List Int) (o : List Int) (i : Nat) : Nat → Nat
  | 0 => 0
  | p + 1 => if l.getD (o.getD p 0).toNat 0 < l.getD i 0 then find l o i p else p + 1
theorem find_le (l o : List Int) (i : Nat) : ∀ p, find l o i p ≤ p
  | 0 => Nat.le_refl _
  | p + 1 => by
    rw [find]
    split
    · have := find_le l o i p; omega
    · exact Nat.le_refl _
theorem find_less (l o : List Int) (i : Nat) : ∀ p q, find l o i p ≤ q → q < p → l.getD (o.getD q 0).toNat 0 < l.getD i 0
  | 0, q, h1, h2 => by omega
  | p + 1, q, h1, h2 => by
    rw [find] at h1
    split at h1
    · rename_i c
      by_cases e : q = p
      · subst e; exact c
      · exact find_less l o i p q h1 (by omega)
    · omega
theorem find_ge (l o : List Int) (i : Nat) : ∀ p, 0 < find l o i p → ¬ l.getD (o.getD (find l o i p - 1) 0).toNat 0 < l.getD i 0
  | 0, h => by rw [find] at h; omega
  | p + 1, h => by
    rw [find] at h ⊢
    split at h
    · rename_i c
      rw [if_pos c]
      exact find_ge l o i p h
    · rename_i c
      rw [if_neg c]
      simpa using c

theorem ref_l1 (l o : List Int) (i : Nat) (hi : i < l.length) (hl : l.length ≤ 17592186044416) (ho : ∀ q, q < o.length → 0 ≤ o.getD q 0 ∧ o.getD q 0 < (l.length : Int)) : ∀ (p k : Nat), p ≤ o.length → o.length ≤ 17592186044416 →
    r07_Order.l1 (k + (p - find l o i p) + 1) l o (i : Int) (p : Int) = r07_Order.j2 k l o (i : Int) (find l o i p : Int)
  | 0, k, hp, hol => by
    rw [find]
    show r07_Order.l1 (k + 1) l o (i : Int) 0 = _
    rw [r07_Order.l1, if_neg (by omega)]
    rfl
  | p + 1, k, hp, hol => by
    rw [r07_Order.l1, if_pos (by omega), w64 (by omega) (by omega), show ((p + 1 : Nat) : Int) - 1 = (p : Int) by omega, if_pos (by omega), if_pos (by omega), rd_nat, rd_nat]
    obtain ⟨h1, h2⟩ := ho p (by omega)
    rw [if_pos h1, if_pos h2, if_pos (by omega), if_pos (by omega), show rd l (o.getD p 0) = l.getD (o.getD p 0).toNat 0 from rfl, find]
    by_cases c : l.getD (o.getD p 0).toNat 0 < l.getD i 0
    · rw [if_pos c, if_pos c]
      have hle := find_le l o i p
      have e : k + (p + 1 - find l o i p) = k + (p - find l o i p) + 1 := by omega
      rw [e]
      exact ref_l1 l o i hi hl ho p k (by omega) hol
    · rw [if_neg c, if_neg c]
      have e : k + (p + 1 - (p + 1)) = k := by omega
      rw [e]

theorem ref_l2 (l : List Int) (i p : Nat) (hb : p ≤ 17592186044416) : ∀ (t k : Nat) (x : List Int), p + t < x.length → x.length ≤ 17592186044417 → i ≤ 17592186044416 →
    ∃ y : List Int, (∀ j, y[j]? = if j < p then x[j]? else if j = p then some (i : Int) else if j ≤ p + t then x[j - 1]? else x[j]?) ∧
      r07_Order.l2 (k + t + 1) l x (i : Int) (p : Int) ((p + t : Nat) : Int) = r07_Order.l0 k l y ((i + 1 : Nat) : Int)
  | 0, k, x, hp, hx, hi => by
    refine ⟨x.set p (i : Int), fun j => ?_, ?_⟩
    · rw [List.getElem?_set]
      by_cases c : p = j
      · subst c; rw [if_pos rfl, if_pos (by omega), if_neg (by omega), if_pos rfl]
      · rw [if_neg c]
        by_cases c2 : j < p
        · rw [if_pos c2]
        · rw [if_neg c2, if_neg (by omega), if_neg (by omega)]
    · rw [r07_Order.l2, if_neg (by omega), if_pos (by omega), if_pos (by omega), w64 (by omega) (by omega), Int.toNat_natCast]
      rw [show ((i + 1 : Nat) : Int) = (i : Int) + 1 by omega]
  | t + 1, k, x, hp, hx, hi => by
    obtain ⟨y, hy, he⟩ := ref_l2 l i p hb t k (x.set (p + t + 1) (x.getD (p + t) 0)) (by rw [List.length_set]; omega) (by rw [List.length_set]; omega) hi
    refine ⟨y, fun j => ?_, ?_⟩
    · rw [hy j, List.getElem?_set, List.getElem?_set]
      by_cases c1 : j < p
      · rw [if_pos c1, if_pos c1, if_neg (by omega)]
      · rw [if_neg c1, if_neg c1]
        by_cases c2 : j = p
        · rw [if_pos c2, if_pos c2]
        · rw [if_neg c2, if_neg c2]
          by_cases c3 : j ≤ p + t
          · rw [if_pos c3, if_neg (show ¬ p + t + 1 = j - 1 by omega), if_pos (show j ≤ p + (t + 1) by omega)]
          · rw [if_neg c3]
            by_cases c4 : p + t + 1 = j
            · subst c4
              rw [if_pos rfl, if_pos (show p + t + 1 < x.length by omega), if_pos (show p + t + 1 ≤ p + (t + 1) by omega), List.getD_eq_getElem?_getD]
              show some ((x[p + t]?).getD 0) = x[p + t]?
              rw [List.getElem?_eq_getElem (by omega)]
              rfl
            · rw [if_neg c4, if_neg (show ¬ j ≤ p + (t + 1) by omega)]
    · rw [r07_Order.l2, if_pos (by omega), w64 (by omega) (by omega), show ((p + (t + 1) : Nat) : Int) - 1 = ((p + t : Nat) : Int) by omega, if_pos (by omega), if_pos (by omega), if_pos (by omega), if_pos (by omega), rd_nat, Int.toNat_natCast, show p + (t + 1) = p + t + 1 by omega, show k + (t + 1) = k + t + 1 by omega]
      exact he

def ins (o : List Nat) (p i : Nat) : List Nat := o.take p ++ i :: o.drop p
theorem ref_step (l : List Int) (o : List Nat) (i : Nat) (hi : i < l.length) (hl : l.length < 17592186044416) (ho : ∀ x ∈ o, x < i) (hol : o.length = i) (k : Nat) :
    ∃ c p, p ≤ i ∧ p = find l (o.map fun x : Nat => (x : Int)) i i ∧ r07_Order.l0 (k + c) l (o.map fun x : Nat => (x : Int)) (i : Int) = r07_Order.l0 k l ((ins o p i).map fun x : Nat => (x : Int)) ((i + 1 : Nat) : Int) := by
  have hm : (o.map fun x : Nat => (x : Int)).length = i := by rw [List.length_map]; exact hol
  have hget : ∀ q, q < o.length → (o.map fun x : Nat => (x : Int)).getD q 0 = ((o.getD q 0 : Nat) : Int) := by
    intro q hq
    simp [List.getD_eq_getElem?_getD, List.getElem?_eq_getElem hq]
  have hb : ∀ q, q < (o.map fun x : Nat => (x : Int)).length → 0 ≤ (o.map fun x : Nat => (x : Int)).getD q 0 ∧ (o.map fun x : Nat => (x : Int)).getD q 0 < (l.length : Int) := by
    intro q hq
    rw [hm] at hq
    rw [hget q (by omega)]
    have : o.getD q 0 ∈ o := by
      rw [List.getD_eq_getElem?_getD, List.getElem?_eq_getElem (by omega)]
      exact List.getElem_mem _
    have := ho _ this
    omega
  have hle := find_le l (o.map fun x : Nat => (x : Int)) i i
  obtain ⟨p, hp⟩ : ∃ p, p = find l (o.map fun x : Nat => (x : Int)) i i := ⟨_, rfl⟩
  rw [← hp] at hle
  obtain ⟨y, hy, he⟩ := ref_l2 l i p (by omega) (i - p) k ((o.map fun x : Nat => (x : Int)) ++ [0]) (by rw [List.length_append, hm, List.length_singleton]; omega) (by rw [List.length_append, hm, List.length_singleton]; omega) (by omega)
  have h1 := ref_l1 l (o.map fun x : Nat => (x : Int)) i hi (by omega) hb i (k + (i - p) + 1 + 1) (by rw [hm]; exact Nat.le_refl _) (by rw [hm]; omega)
  rw [← hp] at h1
  have hyy : y = (ins o p i).map fun x : Nat => (x : Int) := by
    apply List.ext_getElem?
    intro j
    rw [hy j, show p + (i - p) = i by omega, ins, List.map_append, List.map_cons, List.map_take, List.map_drop]
    generalize hom : (o.map fun x : Nat => (x : Int)) = om at hm
    have m1 : (om.take p).length = p := by rw [List.length_take, hm]; omega
    by_cases c1 : j < p
    · rw [if_pos c1, List.getElem?_append_left (l₁ := om) (by omega), List.getElem?_append_left (l₁ := om.take p) (by omega), List.getElem?_take, if_pos c1]
    · rw [if_neg c1, List.getElem?_append_right (l₁ := om.take p) (by omega), m1]
      by_cases c2 : j = p
      · subst c2; rw [if_pos rfl, Nat.sub_self]; rfl
      · rw [if_neg c2]
        obtain ⟨q, rfl⟩ : ∃ q, j = q + p + 1 := ⟨j - p - 1, by omega⟩
        rw [show q + p + 1 - p = q + 1 by omega, List.getElem?_cons_succ, List.getElem?_drop, show p + q = q + p by omega]
        by_cases c3 : q + p + 1 ≤ i
        · rw [if_pos c3, show q + p + 1 - 1 = q + p by omega, List.getElem?_append_left (l₁ := om) (by omega)]
        · rw [if_neg c3, List.getElem?_append_right (l₁ := om) (by omega), hm, List.getElem?_eq_none (l := om) (by omega)]
          rw [List.getElem?_eq_none (by simp; omega)]
  refine ⟨(i - p) + 1 + 1 + (i - p) + 1 + 1, p, hle, hp, ?_⟩
  rw [show k + ((i - p) + 1 + 1 + (i - p) + 1 + 1) = (k + (i - p) + 1 + 1 + (i - p) + 1) + 1 by omega, r07_Order.l0, if_pos (by omega), hm, h1, r07_Order.j2, hm, if_pos (by omega), Option.bind_some]
  have e2 : wrap64 ((((o.map fun x : Nat => (x : Int)) ++ [0]).length : Int) - 1) = ((p + (i - p) : Nat) : Int) := by
    rw [List.length_append, hm, List.length_singleton, w64 (by omega) (by omega)]
    omega
  rw [e2, he, hyy]
end Go.Proofs.Ytfegaffcalpmbaa.Pure
