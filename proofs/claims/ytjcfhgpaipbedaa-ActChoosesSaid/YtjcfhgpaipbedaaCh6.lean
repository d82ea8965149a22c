/- The document's order and powers of two, in plain Lean. -/
import Derived.Test.YtjcfhgpaipbedaaCh2
import Derived.Test.YtjcfhgpaipbedaaA18
namespace Go.Proofs.Ytjcfhgpaipbedaa.Pure
set_option linter.unusedSimpArgs false
set_option linter.unusedVariables false
open Go.RowKit Go.Proofs.YtjcfhgpaipbedaaW.PrintWords Go.Proofs.YtjcfhgpaipbedaaW.PrintLast Go.Proofs.YtjcfhgpaipbedaaW.PrintMore Go.Proofs.Ytjcfhgpaipbedaa.A Go.Proofs.Ytjcfhgpaipbedaa.St
def find (l : List Int) (o : List Int) (i : Nat) : Nat → Nat
  | 0 => 0
  | p + 1 => if l.getD (o.getD p 0).toNat 0 < l.getD i 0 then find l o i p else p + 1
theorem find_le (l o : List Int) (i : Nat) : ∀ p, find l o i p ≤ p
  | 0 => Nat.le_refl _
  | p + 1 => by
    rw [find]
    split
    · have := find_le l o i p; omega
    · exact Nat.le_refl _
theorem find_less (l o : List Int) (i : Nat) : ∀ p q, find l o i p ≤ q → q < p → l.getD (o.getD q 0).toNat 0 < l.getD i 0
  | 0, q, h1, h2 => by omega
  | p + 1, q, h1, h2 => by
    rw [find] at h1
    split at h1
    · rename_i c
      by_cases e : q = p
      · subst e; exact c
      · exact find_less l o i p q h1 (by omega)
    · omega
theorem find_ge (l o : List Int) (i : Nat) : ∀ p, 0 < find l o i p → ¬ l.getD (o.getD (find l o i p - 1) 0).toNat 0 < l.getD i 0
  | 0, h => by rw [find] at h; omega
  | p + 1, h => by
    rw [find] at h ⊢
    split at h
    · rename_i c
      rw [if_pos c]
      exact find_ge l o i p h
    · rename_i c
      rw [if_neg c]
      simpa using c
theorem ref_l1 (l o : List Int) (i : Nat) (hi : i < l.length) (hl : l.length ≤ 17592186044416) (ho : ∀ q, q < o.length → 0 ≤ o.getD q 0 ∧ o.getD q 0 < (l.length : Int)) : ∀ (p k : Nat), p ≤ o.length → o.length ≤ 17592186044416 →
    r07_Order.l1 (k + (p - find l o i p) + 1) l o (i : Int) (p : Int) = r07_Order.j2 k l o (i : Int) (find l o i p : Int)
  | 0, k, hp, hol => by
    rw [find]
    show r07_Order.l1 (k + 1) l o (i : Int) 0 = _
    rw [r07_Order.l1, if_neg (by omega)]
    rfl
  | p + 1, k, hp, hol => by
    rw [r07_Order.l1, if_pos (by omega), w64 (by omega) (by omega), show ((p + 1 : Nat) : Int) - 1 = (p : Int) by omega, if_pos (by omega), if_pos (by omega), rd_nat, rd_nat]
    obtain ⟨h1, h2⟩ := ho p (by omega)
    rw [if_pos h1, if_pos h2, if_pos (by omega), if_pos (by omega), show rd l (o.getD p 0) = l.getD (o.getD p 0).toNat 0 from rfl, find]
    by_cases c : l.getD (o.getD p 0).toNat 0 < l.getD i 0
    · rw [if_pos c, if_pos c]
      have hle := find_le l o i p
      have e : k + (p + 1 - find l o i p) = k + (p - find l o i p) + 1 := by omega
      rw [e]
      exact ref_l1 l o i hi hl ho p k (by omega) hol
    · rw [if_neg c, if_neg c]
      have e : k + (p + 1 - (p + 1)) = k := by omega
      rw [e]
theorem ref_l2 (l : List Int) (i p : Nat) (hb : p ≤ 17592186044416) : ∀ (t k : Nat) (x : List Int), p + t < x.length → x.length ≤ 17592186044417 → i ≤ 17592186044416 →
    ∃ y : List Int, (∀ j, y[j]? = if j < p then x[j]? else if j = p then some (i : Int) else if j ≤ p + t then x[j - 1]? else x[j]?) ∧
      r07_Order.l2 (k + t + 1) l x (i : Int) (p : Int) ((p + t : Nat) : Int) = r07_Order.l0 k l y ((i + 1 : Nat) : Int)
  | 0, k, x, hp, hx, hi => by
    refine ⟨x.set p (i : Int), fun j => ?_, ?_⟩
    · rw [List.getElem?_set]
      by_cases c : p = j
      · subst c; rw [if_pos rfl, if_pos (by omega), if_neg (by omega), if_pos rfl]
      · rw [if_neg c]
        by_cases c2 : j < p
        · rw [if_pos c2]
        · rw [if_neg c2, if_neg (by omega), if_neg (by omega)]
    · rw [r07_Order.l2, if_neg (by omega), if_pos (by omega), if_pos (by omega), w64 (by omega) (by omega), Int.toNat_natCast]
      rw [show ((i + 1 : Nat) : Int) = (i : Int) + 1 by omega]
  | t + 1, k, x, hp, hx, hi => by
    obtain ⟨y, hy, he⟩ := ref_l2 l i p hb t k (x.set (p + t + 1) (x.getD (p + t) 0)) (by rw [List.length_set]; omega) (by rw [List.length_set]; omega) hi
    refine ⟨y, fun j => ?_, ?_⟩
    · rw [hy j, List.getElem?_set, List.getElem?_set]
      by_cases c1 : j < p
      · rw [if_pos c1, if_pos c1, if_neg (by omega)]
      · rw [if_neg c1, if_neg c1]
        by_cases c2 : j = p
        · rw [if_pos c2, if_pos c2]
        · rw [if_neg c2, if_neg c2]
          by_cases c3 : j ≤ p + t
          · rw [if_pos c3, if_neg (show ¬ p + t + 1 = j - 1 by omega), if_pos (show j ≤ p + (t + 1) by omega)]
          · rw [if_neg c3]
            by_cases c4 : p + t + 1 = j
            · subst c4
              rw [if_pos rfl, if_pos (show p + t + 1 < x.length by omega), if_pos (show p + t + 1 ≤ p + (t + 1) by omega), List.getD_eq_getElem?_getD]
              show some ((x[p + t]?).getD 0) = x[p + t]?
              rw [List.getElem?_eq_getElem (by omega)]
              rfl
            · rw [if_neg c4, if_neg (show ¬ j ≤ p + (t + 1) by omega)]
    · rw [r07_Order.l2, if_pos (by omega), w64 (by omega) (by omega), show ((p + (t + 1) : Nat) : Int) - 1 = ((p + t : Nat) : Int) by omega, if_pos (by omega), if_pos (by omega), if_pos (by omega), if_pos (by omega), rd_nat, Int.toNat_natCast, show p + (t + 1) = p + t + 1 by omega, show k + (t + 1) = k + t + 1 by omega]
      exact he
def ins (o : List Nat) (p i : Nat) : List Nat := o.take p ++ i :: o.drop p
theorem ref_step (l : List Int) (o : List Nat) (i : Nat) (hi : i < l.length) (hl : l.length < 17592186044416) (ho : ∀ x ∈ o, x < i) (hol : o.length = i) (k : Nat) :
    ∃ c p, p ≤ i ∧ p = find l (o.map fun x : Nat => (x : Int)) i i ∧ r07_Order.l0 (k + c) l (o.map fun x : Nat => (x : Int)) (i : Int) = r07_Order.l0 k l ((ins o p i).map fun x : Nat => (x : Int)) ((i + 1 : Nat) : Int) := by
  have hm : (o.map fun x : Nat => (x : Int)).length = i := by rw [List.length_map]; exact hol
  have hget : ∀ q, q < o.length → (o.map fun x : Nat => (x : Int)).getD q 0 = ((o.getD q 0 : Nat) : Int) := by
    intro q hq
    simp [List.getD_eq_getElem?_getD, List.getElem?_eq_getElem hq]
  have hb : ∀ q, q < (o.map fun x : Nat => (x : Int)).length → 0 ≤ (o.map fun x : Nat => (x : Int)).getD q 0 ∧ (o.map fun x : Nat => (x : Int)).getD q 0 < (l.length : Int) := by
    intro q hq
    rw [hm] at hq
    rw [hget q (by omega)]
    have : o.getD q 0 ∈ o := by
      rw [List.getD_eq_getElem?_getD, List.getElem?_eq_getElem (by omega)]
      exact List.getElem_mem _
    have := ho _ this
    omega
  have hle := find_le l (o.map fun x : Nat => (x : Int)) i i
  obtain ⟨p, hp⟩ : ∃ p, p = find l (o.map fun x : Nat => (x : Int)) i i := ⟨_, rfl⟩
  rw [← hp] at hle
  obtain ⟨y, hy, he⟩ := ref_l2 l i p (by omega) (i - p) k ((o.map fun x : Nat => (x : Int)) ++ [0]) (by rw [List.length_append, hm, List.length_singleton]; omega) (by rw [List.length_append, hm, List.length_singleton]; omega) (by omega)
  have h1 := ref_l1 l (o.map fun x : Nat => (x : Int)) i hi (by omega) hb i (k + (i - p) + 1 + 1) (by rw [hm]; exact Nat.le_refl _) (by rw [hm]; omega)
  rw [← hp] at h1
  have hyy : y = (ins o p i).map fun x : Nat => (x : Int) := by
    apply List.ext_getElem?
    intro j
    rw [hy j, show p + (i - p) = i by omega, ins, List.map_append, List.map_cons, List.map_take, List.map_drop]
    generalize hom : (o.map fun x : Nat => (x : Int)) = om at hm
    have m1 : (om.take p).length = p := by rw [List.length_take, hm]; omega
    by_cases c1 : j < p
    · rw [if_pos c1, List.getElem?_append_left (l₁ := om) (by omega), List.getElem?_append_left (l₁ := om.take p) (by omega), List.getElem?_take, if_pos c1]
    · rw [if_neg c1, List.getElem?_append_right (l₁ := om.take p) (by omega), m1]
      by_cases c2 : j = p
      · subst c2; rw [if_pos rfl, Nat.sub_self]; rfl
      · rw [if_neg c2]
        obtain ⟨q, rfl⟩ : ∃ q, j = q + p + 1 := ⟨j - p - 1, by omega⟩
        rw [show q + p + 1 - p = q + 1 by omega, List.getElem?_cons_succ, List.getElem?_drop, show p + q = q + p by omega]
        by_cases c3 : q + p + 1 ≤ i
        · rw [if_pos c3, show q + p + 1 - 1 = q + p by omega, List.getElem?_append_left (l₁ := om) (by omega)]
        · rw [if_neg c3, List.getElem?_append_right (l₁ := om) (by omega), hm, List.getElem?_eq_none (l := om) (by omega)]
          rw [List.getElem?_eq_none (by simp; omega)]
  refine ⟨(i - p) + 1 + 1 + (i - p) + 1 + 1, p, hle, hp, ?_⟩
  rw [show k + ((i - p) + 1 + 1 + (i - p) + 1 + 1) = (k + (i - p) + 1 + 1 + (i - p) + 1) + 1 by omega, r07_Order.l0, if_pos (by omega), hm, h1, r07_Order.j2, hm, if_pos (by omega), Option.bind_some]
  have e2 : wrap64 ((((o.map fun x : Nat => (x : Int)) ++ [0]).length : Int) - 1) = ((p + (i - p) : Nat) : Int) := by
    rw [List.length_append, hm, List.length_singleton, w64 (by omega) (by omega)]
    omega
  rw [e2, he, hyy]
theorem up_of {α : Type} {f : Nat → Option α} (hm : ∀ k, LeO (f k) (f (k + 1))) {K : Nat} {r : α} (h : f K = some r) : ∀ k, K ≤ k → f k = some r := by
  intro k hk
  obtain ⟨d, rfl⟩ : ∃ d, k = K + d := ⟨k - K, by omega⟩
  clear hk
  induction d with
  | zero => exact h
  | succ d ih => exact hm (K + d) r ih
theorem ins_ok (l : List Int) (o : List Nat) (i p : Nat) (hp : p ≤ i) (hpf : p = find l (o.map fun x : Nat => (x : Int)) i i) (h1 : o.Perm (List.range i)) (h2 : o.Pairwise (Ahead l)) :
    (ins o p i).Perm (List.range (i + 1)) ∧ (ins o p i).Pairwise (Ahead l) := by
  have hol : o.length = i := by rw [h1.length_eq, List.length_range]
  have hlt : ∀ x ∈ o, x < i := fun x hx => List.mem_range.1 (h1.mem_iff.1 hx)
  have hget : ∀ q (hq : q < o.length), ((o.map fun x : Nat => (x : Int)).getD q 0).toNat = o[q] := by
    intro q hq
    simp [List.getD_eq_getElem?_getD, List.getElem?_eq_getElem hq]
  constructor
  · unfold ins
    have e1 : (o.take p ++ i :: o.drop p).Perm (i :: (o.take p ++ o.drop p)) := List.perm_middle
    rw [List.take_append_drop] at e1
    refine e1.trans ?_
    rw [List.range_succ]
    exact ((h1.cons i).trans (List.perm_append_singleton i (List.range i)).symm)
  · unfold ins
    have h3 := h2
    rw [← List.take_append_drop p o, List.pairwise_append] at h3
    rw [List.pairwise_append, List.pairwise_cons]
    refine ⟨h3.1, ⟨?_, h3.2.1⟩, ?_⟩
    · intro b hb
      obtain ⟨q, hq, rfl⟩ := List.getElem_of_mem hb
      rw [List.length_drop] at hq
      rw [List.getElem_drop]
      have := find_less l (o.map fun x : Nat => (x : Int)) i i (p + q) (by omega) (by omega)
      rw [hget (p + q) (by omega)] at this
      exact .inl this
    · intro a ha b hb
      rcases List.mem_cons.1 hb with rfl | hb
      · obtain ⟨q, hq, rfl⟩ := List.getElem_of_mem ha
        rw [List.length_take] at hq
        rw [List.getElem_take]
        have hpp : 0 < p := by omega
        have hge := find_ge l (o.map fun x : Nat => (x : Int)) b b (by omega)
        rw [← hpf, hget (p - 1) (by omega)] at hge
        have hai := hlt o[q] (List.getElem_mem _)
        by_cases e : q = p - 1
        · subst e
          unfold Ahead
          omega
        · have := (List.pairwise_iff_getElem.1 h2) q (p - 1) (by omega) (by omega) (by omega)
          unfold Ahead at this ⊢
          omega
      · exact h3.2.2 a ha b hb
theorem ref_order_l (l : List Int) (hl : l.length < 17592186044416) : ∀ (d i : Nat) (o : List Nat), l.length - i = d → i ≤ l.length → o.Perm (List.range i) → o.Pairwise (Ahead l) →
    ∃ K, r07_Order.l0 K l (o.map fun x : Nat => (x : Int)) (i : Int) = some (orderL l)
  | 0, i, o, hd, hi, h1, h2 => by
    obtain rfl : i = l.length := by omega
    have e : o = orderN l := order_unique l o _ (h1.trans (orderN_spec l).1.symm) h2 (orderN_spec l).2
    refine ⟨1, ?_⟩
    rw [r07_Order.l0, if_neg (by omega), orderL_eq, e]
  | d + 1, i, o, hd, hi, h1, h2 => by
    have hol : o.length = i := by rw [h1.length_eq, List.length_range]
    have hlt : ∀ x ∈ o, x < i := fun x hx => List.mem_range.1 (h1.mem_iff.1 hx)
    obtain ⟨c0, p, hp, hpf, _⟩ := ref_step l o i (by omega) hl hlt hol 0
    obtain ⟨q1, q2⟩ := ins_ok l o i p hp hpf h1 h2
    obtain ⟨K, hK⟩ := ref_order_l l hl d (i + 1) (ins o p i) (by omega) (by omega) q1 q2
    obtain ⟨c, p', hp', hpf', he⟩ := ref_step l o i (by omega) hl hlt hol K
    rw [← hpf] at hpf'
    subst hpf'
    exact ⟨K + c, by rw [he]; exact hK⟩
theorem ref_order (l : List Int) (hl : l.length < 17592186044416) : ∃ K, ∀ k, K ≤ k → r07_Order.f k l = some (orderL l) := by
  obtain ⟨K, h⟩ := ref_order_l l hl _ 0 [] rfl (Nat.zero_le _) (List.Perm.refl _) List.Pairwise.nil
  exact ⟨K, up_of (f := fun k => r07_Order.f k l) (fun k => r07_Order.mono l k) h⟩
theorem halves : ∀ (d i : Nat) (n c : Int), n - (i : Int) = d → 0 ≤ c → c ≤ 9223372036854775807 → i ≤ 100 → n ≤ 100 → Ev (fun k => r02_Exp2.l0 k n c (i : Int)) (c / 2 ^ d)
  | 0, i, n, c, hd, h0, h1, hi, hn => by
    refine Ev.step (fun k => by rw [r02_Exp2.l0]) (ev_neg (by omega) ?_)
    rw [Int.pow_zero, Int.ediv_one]
    exact Ev.now _
  | d + 1, i, n, c, hd, h0, h1, hi, hn => by
    refine Ev.step (fun k => by rw [r02_Exp2.l0]) (ev_pos (by omega) ?_)
    rw [Int.tdiv_eq_ediv_of_nonneg h0, w64 (by omega) (by omega), w1 i (by omega)]
    have h := halves d (i + 1) n (c / 2) (by omega) (by omega) (by omega) (by omega) hn
    have e : c / 2 ^ (d + 1) = c / 2 / 2 ^ d := by
      rw [Int.pow_succ, Int.mul_comm, Int.ediv_ediv_of_nonneg (by omega)]
    rw [e]
    exact h
theorem floor_m (m : Int) (h0 : m ≤ 0) (h1 : -9223372036854775808 ≤ m) : r02_Floor.f m 65536 = some (m / 65536, m % 65536, 0) := by
  unfold r02_Floor.f
  rw [if_neg (by omega), if_neg (by omega)]
  have ht := tmod_bounds m 65536 (by omega)
  have hb : -9223372036854775807 ≤ Int.tdiv m 65536 ∧ Int.tdiv m 65536 ≤ 0 := by omega
  by_cases c : Int.tmod m 65536 < 0
  · have := floor_neg m c
    rw [if_pos c, w64 (x := Int.tdiv m 65536) (by omega) (by omega), w64 (x := Int.tdiv m 65536 - 1) (by omega) (by omega), w64 (x := Int.tmod m 65536 + 65536) (by omega) (by omega), this.1, this.2]
  · have := floor_pos m c
    rw [if_neg c, w64 (x := Int.tdiv m 65536) (by omega) (by omega), this.1, this.2]
theorem exp_ev (x : Int) (h1 : -9223372036854775808 ≤ x) (h2 : x ≤ 9223372036854775807) : Ev (fun k => r02_Exp2.f k x) (expF x) := by
  have hj : ∀ k, r02_Exp2.f k x = r02_Exp2.j0 k (min x 0) := by
    intro k
    unfold r02_Exp2.f
    by_cases c : x > 0
    · rw [if_pos c, Int.min_eq_right (by omega)]
    · rw [if_neg c, Int.min_eq_left (by omega)]
  refine Ev.congr hj (Ev.step (fun k => by rw [r02_Exp2.j0]) (ev_is (floor_m (min x 0) (by omega) (by omega)) ?_))
  unfold expF
  generalize hm : min x 0 = m
  have hm0 : m ≤ 0 := by omega
  have hm1 : -9223372036854775808 ≤ m := by omega
  have hn : wrap64 (-(m / 65536)) = -(m / 65536) := w64 (by omega) (by omega)
  show Ev (fun k => if wrap64 (-(m / 65536)) ≥ 31 then some 0 else r02_Exp2.l0 k (wrap64 (-(m / 65536))) (wrap64 (1073741824 + wrap64 (Int.tdiv (wrap64 (wrap64 (747400624 + wrap64 (Int.tdiv (wrap64 (wrap64 (241400000 + wrap64 (Int.tdiv (wrap64 (84941200 * (m % 65536))) 65536)) * (m % 65536))) 65536)) * (m % 65536))) 65536))) 0) _
  rw [hn]
  by_cases c : m / 65536 ≤ -31
  · rw [if_pos c]
    exact ev_pos (by omega) (Ev.now _)
  · rw [if_neg c]
    refine ev_neg (by omega) ?_
    have ht : 0 ≤ m % 65536 ∧ m % 65536 < 65536 := by omega
    have s1 := step_bounds 241400000 84941200 (m % 65536) 84941200 (by omega) ht
    have s2 := step_bounds 747400624 (stepF 241400000 84941200 (m % 65536)) (m % 65536) 326341200 (by omega) ht
    have s3 := step_bounds 1073741824 (stepF 747400624 (stepF 241400000 84941200 (m % 65536)) (m % 65536)) (m % 65536) 1073741824 (by omega) ht
    have e1 : wrap64 (241400000 + wrap64 (Int.tdiv (wrap64 (84941200 * (m % 65536))) 65536)) = stepF 241400000 84941200 (m % 65536) := by
      have q := s1.2.2
      unfold stepF at q ⊢
      rw [w64 (x := 84941200 * (m % 65536)) (by omega) (by omega), w64 (x := Int.tdiv (84941200 * (m % 65536)) 65536) (by omega) (by omega), w64 (by omega) (by omega)]
    rw [e1]
    have e2 : wrap64 (747400624 + wrap64 (Int.tdiv (wrap64 (stepF 241400000 84941200 (m % 65536) * (m % 65536))) 65536)) = stepF 747400624 (stepF 241400000 84941200 (m % 65536)) (m % 65536) := by
      have q := s2.2.2
      generalize stepF 241400000 84941200 (m % 65536) = y at *
      unfold stepF at q ⊢
      rw [w64 (x := y * (m % 65536)) (by omega) (by omega), w64 (x := Int.tdiv (y * (m % 65536)) 65536) (by omega) (by omega), w64 (by omega) (by omega)]
    rw [e2]
    have e3 : wrap64 (1073741824 + wrap64 (Int.tdiv (wrap64 (stepF 747400624 (stepF 241400000 84941200 (m % 65536)) (m % 65536) * (m % 65536))) 65536)) = expY (m % 65536) := by
      have q := s3.2.2
      unfold expY
      generalize stepF 747400624 (stepF 241400000 84941200 (m % 65536)) (m % 65536) = y at *
      unfold stepF at q ⊢
      rw [w64 (x := y * (m % 65536)) (by omega) (by omega), w64 (x := Int.tdiv (y * (m % 65536)) 65536) (by omega) (by omega), w64 (by omega) (by omega)]
    rw [e3]
    have hy : 1073741824 ≤ expY (m % 65536) ∧ expY (m % 65536) ≤ 2147483648 := by
      have q := s3.2.2
      show _ ≤ stepF _ _ _ ∧ stepF _ _ _ ≤ _
      omega
    obtain ⟨d, hd⟩ : ∃ d : Nat, -(m / 65536) = (d : Int) := ⟨(-(m / 65536)).toNat, by omega⟩
    rw [hd, Int.toNat_natCast]
    exact halves d 0 (d : Int) _ (by omega) (by omega) (by omega) (by omega) (by omega)
end Go.Proofs.Ytjcfhgpaipbedaa.Pure
