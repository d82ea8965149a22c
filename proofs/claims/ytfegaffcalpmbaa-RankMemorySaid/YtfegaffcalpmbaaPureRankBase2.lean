/- rank and its reference: orders and shares, whole. -/
import Derived.Test.YtfegaffcalpmbaaPureRankBase
namespace Go.Proofs.Ytfegaffcalpmbaa.Pure
set_option linter.unusedSimpArgs false
set_option linter.unusedVariables false
set_option linter.unusedSectionVars false
open Go.RowKit Go.Proofs.YtfegaffcalpmbaaW.PrintWords Go.Proofs.YtfegaffcalpmbaaW.PrintLast Go.Proofs.YtfegaffcalpmbaaW.PrintMore Go.Proofs.Ytfegaffcalpmbaa.A Go.Proofs.Ytfegaffcalpmbaa.St

theorem up_of {α : Type} {f : Nat → Option α} (hm : ∀ k, LeO (f k) (f (k + 1))) {K : Nat} {r : α} (h : f K = some r) : ∀ k, K ≤ k → f k = some r := by
  intro k hk
  obtain ⟨d, rfl⟩ : ∃ d, k = K + d := ⟨k - K, by omega⟩
  clear hk
  induction d with
  | zero => exact h
  | succ d ih => exact hm (K + d) r ih

theorem ins_ok (l : List Int) (o : List Nat) (i p : Nat) (hp : p ≤ i) (hpf : p = find l (o.map fun x : Nat => (x : Int)) i i) (h1 : o.Perm (List.range i)) (h2 : o.Pairwise (Ahead l)) :
    (ins o p i).Perm (List.range (i + 1)) ∧ (ins o p i).Pairwise (Ahead l) := by
  have hol : o.length = i := by rw [h1.length_eq, List.length_range]
  have hlt : ∀ x ∈ o, x < i := fun x hx => List.mem_range.1 (h1.mem_iff.1 hx)
  have hget : ∀ q (hq : q < o.length), ((o.map fun x : Nat => (x : Int)).getD q 0).toNat = o[q] := by
    intro q hq
    simp [List.getD_eq_getElem?_getD, List.getElem?_eq_getElem hq]
  constructor
  · unfold ins
    have e1 : (o.take p ++ i :: o.drop p).Perm (i :: (o.take p ++ o.drop p)) := List.perm_middle
    rw [List.take_append_drop] at e1
    refine e1.trans ?_
    rw [List.range_succ]
    exact ((h1.cons i).trans (List.perm_append_singleton i (List.range i)).symm)
  · unfold ins
    have h3 := h2
    rw [← List.take_append_drop p o, List.pairwise_append] at h3
    rw [List.pairwise_append, List.pairwise_cons]
    refine ⟨h3.1, ⟨?_, h3.2.1⟩, ?_⟩
    · intro b hb
      obtain ⟨q, hq, rfl⟩ := List.getElem_of_mem hb
      rw [List.length_drop] at hq
      rw [List.getElem_drop]
      have := find_less l (o.map fun x : Nat => (x : Int)) i i (p + q) (by omega) (by omega)
      rw [hget (p + q) (by omega)] at this
      exact .inl this
    · intro a ha b hb
      rcases List.mem_cons.1 hb with rfl | hb
      · obtain ⟨q, hq, rfl⟩ := List.getElem_of_mem ha
        rw [List.length_take] at hq
        rw [List.getElem_take]
        have hpp : 0 < p := by omega
        have hge := find_ge l (o.map fun x : Nat => (x : Int)) b b (by omega)
        rw [← hpf, hget (p - 1) (by omega)] at hge
        have hai := hlt o[q] (List.getElem_mem _)
        by_cases e : q = p - 1
        · subst e
          unfold Ahead
          omega
        · have := (List.pairwise_iff_getElem.1 h2) q (p - 1) (by omega) (by omega) (by omega)
          unfold Ahead at this ⊢
          omega
      · exact h3.2.2 a ha b hb

theorem ref_order_l (l : List Int) (hl : l.length < 17592186044416) : ∀ (d i : Nat) (o : List Nat), l.length - i = d → i ≤ l.length → o.Perm (List.range i) → o.Pairwise (Ahead l) →
    ∃ K, r07_Order.l0 K l (o.map fun x : Nat => (x : Int)) (i : Int) = some (orderL l)
  | 0, i, o, hd, hi, h1, h2 => by
    obtain rfl : i = l.length := by omega
    have e : o = orderN l := order_unique l o _ (h1.trans (orderN_spec l).1.symm) h2 (orderN_spec l).2
    refine ⟨1, ?_⟩
    rw [r07_Order.l0, if_neg (by omega), orderL_eq, e]
  | d + 1, i, o, hd, hi, h1, h2 => by
    have hol : o.length = i := by rw [h1.length_eq, List.length_range]
    have hlt : ∀ x ∈ o, x < i := fun x hx => List.mem_range.1 (h1.mem_iff.1 hx)
    obtain ⟨c0, p, hp, hpf, _⟩ := ref_step l o i (by omega) hl hlt hol 0
    obtain ⟨q1, q2⟩ := ins_ok l o i p hp hpf h1 h2
    obtain ⟨K, hK⟩ := ref_order_l l hl d (i + 1) (ins o p i) (by omega) (by omega) q1 q2
    obtain ⟨c, p', hp', hpf', he⟩ := ref_step l o i (by omega) hl hlt hol K
    rw [← hpf] at hpf'
    subst hpf'
    exact ⟨K + c, by rw [he]; exact hK⟩
theorem ref_order (l : List Int) (hl : l.length < 17592186044416) : ∃ K, ∀ k, K ≤ k → r07_Order.f k l = some (orderL l) := by
  obtain ⟨K, h⟩ := ref_order_l l hl _ 0 [] rfl (Nat.zero_le _) (List.Perm.refl _) List.Pairwise.nil
  exact ⟨K, up_of (f := fun k => r07_Order.f k l) (fun k => r07_Order.mono l k) h⟩

/-! ### shares -/
def fillTo (xs : List Int) (i : Nat) : List Int := xs.take i ++ List.replicate (xs.length - i) 0
theorem fillTo_zero (xs : List Int) : fillTo xs 0 = List.replicate xs.length 0 := by simp [fillTo]
theorem fillTo_all (xs : List Int) : fillTo xs xs.length = xs := by simp [fillTo]
theorem fillTo_length (xs : List Int) (i : Nat) (h : i ≤ xs.length) : (fillTo xs i).length = xs.length := by simp [fillTo]; omega
theorem fillTo_get (xs : List Int) (i j : Nat) (h : i ≤ xs.length) : (fillTo xs i)[j]? = if j < i then xs[j]? else if j < xs.length then some 0 else none := by
  unfold fillTo
  have m1 : min i xs.length = i := by omega
  rw [List.getElem?_append, List.length_take, m1, List.getElem?_take, List.getElem?_replicate]
  by_cases c : j < i
  · rw [if_pos c, if_pos c, if_pos c]
  · rw [if_neg c, if_neg c]
    by_cases c2 : j < xs.length
    · rw [if_pos (by omega), if_pos c2]
    · rw [if_neg (by omega), if_neg c2]
theorem fillTo_set (xs : List Int) (i : Nat) (h : i < xs.length) : (fillTo xs i).set i (xs.getD i 0) = fillTo xs (i + 1) := by
  apply List.ext_getElem?
  intro j
  rw [List.getElem?_set, fillTo_length xs i (by omega), fillTo_get xs i j (by omega), fillTo_get xs (i + 1) j (by omega)]
  by_cases c : i = j
  · subst c
    rw [if_pos rfl, if_pos h, if_pos (by omega), List.getD_eq_getElem?_getD, List.getElem?_eq_getElem h]
    rfl
  · rw [if_neg c]
    by_cases c2 : j < i
    · rw [if_pos c2, if_pos (by omega)]
    · rw [if_neg c2, if_neg (show ¬ j < i + 1 by omega)]
theorem getD_mem (l : List Int) (i : Nat) (h : i < l.length) : l.getD i 0 ∈ l := by
  rw [List.getD_eq_getElem?_getD, List.getElem?_eq_getElem h]
  exact List.getElem_mem _
theorem getD_map (l : List Int) (f : Int → Int) (i : Nat) (h : i < l.length) : (l.map f).getD i 0 = f (l.getD i 0) := by
  simp [List.getD_eq_getElem?_getD, List.getElem?_eq_getElem h]
theorem take_succ_sum (l : List Int) (i : Nat) (h : i < l.length) : (l.take (i + 1)).sum = (l.take i).sum + l.getD i 0 := by
  rw [List.take_succ_eq_append_getElem h, List.sum_append, List.getD_eq_getElem?_getD, List.getElem?_eq_getElem h]
  simp

theorem own_bump (y : List Int) (n : Nat) (hy : ∀ v ∈ y, 0 ≤ v ∧ v < (n : Int)) (hyl : y.length ≤ 4096) : ∀ (d j : Nat) (xs : List Int), y.length - j = d → j ≤ y.length → xs.length = n → (∀ v ∈ xs, 0 ≤ v ∧ v ≤ 4294967296 + (j : Int)) → ∀ k, d + 1 ≤ k →
    rank_Share.l1 k xs y (y.length : Int) (j : Int) = some (bump xs (y.drop j), 0)
  | d, j, xs, hd, hj, hx, hb, 0, hk => by omega
  | d, j, xs, hd, hj, hx, hb, k + 1, hk => by
    rw [rank_Share.l1]
    by_cases c : j < y.length
    · have hv := hy _ (getD_mem y j c)
      rw [if_pos (by omega), if_pos (by omega), if_pos (by omega), rd_nat, if_pos hv.1, if_pos (by rw [hx]; exact hv.2), drop_get y j c]
      obtain ⟨v, hvv⟩ : ∃ v : Nat, y.getD j 0 = (v : Int) := ⟨(y.getD j 0).toNat, by omega⟩
      rw [hvv] at hv ⊢
      have hg := hb _ (getD_mem xs v (by omega))
      rw [rd_nat, Int.toNat_natCast, w64 (by omega) (by omega), w64 (by omega) (by omega)]
      show rank_Share.l1 k _ y (y.length : Int) ((j : Int) + 1) = some (bump (xs.set v (xs.getD v 0 + 1)) (y.drop (j + 1)), 0)
      refine own_bump y n hy hyl (y.length - (j + 1)) (j + 1) _ rfl (by omega) (by rw [List.length_set]; exact hx) ?_ k (by omega)
      intro u hu
      rcases List.mem_or_eq_of_mem_set hu with h | h
      · have := hb u h; omega
      · omega
    · rw [if_neg (by omega), List.drop_eq_nil_of_le (by omega)]
      rfl
theorem ref_bump (y : List Int) (n m : Nat) (hy : ∀ v ∈ y, 0 ≤ v ∧ v < (n : Int)) (hyl : y.length ≤ 4096) (hm : m ≤ y.length) : ∀ (d j : Nat) (xs : List Int), m - j = d → j ≤ m → xs.length = n → (∀ v ∈ xs, 0 ≤ v ∧ v ≤ 4294967296 + (j : Int)) → ∀ k, d + 1 ≤ k →
    r07_Share.l1 k xs (m : Int) y (j : Int) = some (bump xs ((y.take m).drop j), 0)
  | d, j, xs, hd, hj, hx, hb, 0, hk => by omega
  | d, j, xs, hd, hj, hx, hb, k + 1, hk => by
    rw [r07_Share.l1]
    have tl : (y.take m).length = m := by rw [List.length_take]; omega
    by_cases c : j < m
    · have hv := hy _ (getD_mem y j (by omega))
      rw [if_pos (by omega), if_pos (by omega), if_pos (by omega), rd_nat, if_pos hv.1, if_pos (by rw [hx]; exact hv.2), drop_get (y.take m) j (by omega)]
      have e : (y.take m).getD j 0 = y.getD j 0 := by rw [List.getD_eq_getElem?_getD, List.getElem?_take, if_pos c, List.getD_eq_getElem?_getD]
      rw [e]
      obtain ⟨v, hvv⟩ : ∃ v : Nat, y.getD j 0 = (v : Int) := ⟨(y.getD j 0).toNat, by omega⟩
      rw [hvv] at hv ⊢
      have hg := hb _ (getD_mem xs v (by omega))
      rw [rd_nat, Int.toNat_natCast, w64 (by omega) (by omega), w64 (by omega) (by omega)]
      show r07_Share.l1 k _ (m : Int) y ((j : Int) + 1) = some (bump (xs.set v (xs.getD v 0 + 1)) ((y.take m).drop (j + 1)), 0)
      refine ref_bump y n m hy hyl hm (m - (j + 1)) (j + 1) _ rfl (by omega) (by rw [List.length_set]; exact hx) ?_ k (by omega)
      intro u hu
      rcases List.mem_or_eq_of_mem_set hu with h | h
      · have := hb u h; omega
      · omega
    · rw [if_neg (by omega), List.drop_eq_nil_of_le (by omega)]
      rfl

section
variable {l : List Int} {t all : Int} (h : ShareOk l t all)
include h
theorem quos_get (i : Nat) (hi : i < l.length) : (quos l t all).getD i 0 = Int.tdiv (l.getD i 0 * t) all := by unfold quos; rw [getD_map _ _ _ hi]
theorem rests_get (i : Nat) (hi : i < l.length) : (rests l t all).getD i 0 = Int.tmod (l.getD i 0 * t) all := by unfold rests; rw [getD_map _ _ _ hi]
theorem quos_mem : ∀ v ∈ quos l t all, 0 ≤ v ∧ v ≤ 4294967296 := by
  intro v hv
  unfold quos at hv
  obtain ⟨x, hx, rfl⟩ := List.mem_map.1 hv
  have := h.quo x hx
  have := h.t2
  omega
theorem order_mem (m : Nat) : ∀ v ∈ orderL (rests l t all), 0 ≤ v ∧ v < (l.length : Int) := by
  intro v hv
  rw [orderL_eq] at hv
  obtain ⟨x, hx, rfl⟩ := List.mem_map.1 hv
  have := (orderN_mem _ _).1 hx
  unfold rests at this
  rw [List.length_map] at this
  omega
theorem order_len : (orderL (rests l t all)).length = l.length := by
  rw [orderL_eq, List.length_map, orderN_length]
  unfold rests
  rw [List.length_map]

theorem own_share_l : ∀ (d i : Nat), l.length - i = d → i ≤ l.length → (0 ≤ ((quos l t all).take i).sum ∧ ((quos l t all).take i).sum ≤ 4294967296 * (i : Int)) → ∀ k, d + 5000 ≤ k →
    rank_Share.l0 k t all (fillTo (quos l t all) i) (fillTo (rests l t all) i) (t - ((quos l t all).take i).sum) l (l.length : Int) (i : Int) =
      some (bump (quos l t all) ((orderL (rests l t all)).take (missing l t all).toNat), 0)
  | d, i, hd, hi, hb, 0, hk => by omega
  | d, i, hd, hi, hb, k + 1, hk => by
    have ql : (quos l t all).length = l.length := by unfold quos; rw [List.length_map]
    have rl : (rests l t all).length = l.length := by unfold rests; rw [List.length_map]
    have ht1 := h.t1
    have ht2 := h.t2
    have hp := h.pos
    have hle := h.le
    have hlen := h.len
    rw [rank_Share.l0]
    by_cases c : i < l.length
    · obtain ⟨a1, a2, a3, a4, a5, a6⟩ := h.quo _ (getD_mem l i c)
      rw [if_pos (by omega), if_pos (by omega), if_pos (by omega), if_neg (by omega), if_pos (by rw [fillTo_length _ _ (by omega)]; omega), if_pos (by rw [fillTo_length _ _ (by omega)]; omega), rd_nat, w64 (x := l.getD i 0 * t) (by omega) (by omega), w64 (x := Int.tdiv (l.getD i 0 * t) all) (by omega) (by omega), Int.toNat_natCast, ← quos_get h i c, ← rests_get h i c, fillTo_set _ _ (by omega), fillTo_set _ _ (by omega)]
      have es := take_succ_sum (quos l t all) i (by omega)
      rw [← quos_get h i c] at a3 a4
      rw [w64 (x := (i : Int) + 1) (by omega) (by omega), w64 (by omega) (by omega)]
      have e2 : t - ((quos l t all).take i).sum - (quos l t all).getD i 0 = t - ((quos l t all).take (i + 1)).sum := by omega
      rw [e2]
      exact own_share_l (l.length - (i + 1)) (i + 1) rfl (by omega) (by omega) k (by omega)
    · obtain rfl : i = l.length := by omega
      obtain ⟨m0, m1, m2, _⟩ := h.miss
      have e1 : fillTo (quos l t all) l.length = quos l t all := by rw [← ql]; exact fillTo_all _
      have e2 : fillTo (rests l t all) l.length = rests l t all := by rw [← rl]; exact fillTo_all _
      have e3 : t - ((quos l t all).take l.length).sum = missing l t all := by rw [← ql, List.take_length]; rfl
      rw [if_neg (by omega), e1, e2, e3, own_order _ (by rw [rl]; omega), Option.bind_some, if_pos m1, if_pos (by rw [order_len h]; exact m2), Option.bind_some]
      have hm := order_mem h 0
      refine own_bump _ l.length (fun v hv => hm v (List.mem_of_mem_take hv)) (by rw [List.length_take, order_len h]; omega) _ 0 _ rfl (Nat.zero_le _) ql (fun v hv => ?_) k (by rw [List.length_take, order_len h]; omega)
      have := quos_mem h v hv
      omega
theorem ref_share_l (K : Nat) (hK : ∀ k, K ≤ k → r07_Order.f k (rests l t all) = some (orderL (rests l t all))) : ∀ (d i : Nat), l.length - i = d → i ≤ l.length → (0 ≤ ((quos l t all).take i).sum ∧ ((quos l t all).take i).sum ≤ 4294967296 * (i : Int)) → ∀ k, d + K + 5000 ≤ k →
    r07_Share.l0 k l t all ((quos l t all).take i) ((rests l t all).take i) (t - ((quos l t all).take i).sum) (i : Int) =
      some (bump (quos l t all) ((orderL (rests l t all)).take (missing l t all).toNat), 0)
  | d, i, hd, hi, hb, 0, hk => by omega
  | d, i, hd, hi, hb, k + 1, hk => by
    have ql : (quos l t all).length = l.length := by unfold quos; rw [List.length_map]
    have rl : (rests l t all).length = l.length := by unfold rests; rw [List.length_map]
    have ht1 := h.t1
    have ht2 := h.t2
    have hp := h.pos
    have hle := h.le
    have hlen := h.len
    rw [r07_Share.l0]
    by_cases c : i < l.length
    · obtain ⟨a1, a2, a3, a4, a5, a6⟩ := h.quo _ (getD_mem l i c)
      have l8 : ((quos l t all).take i).length = i := by rw [List.length_take]; omega
      have l9 : ((rests l t all).take i).length = i := by rw [List.length_take]; omega
      have n8 : (quos l t all).take i ++ [(quos l t all).getD i 0] = (quos l t all).take (i + 1) := by
        rw [List.take_succ_eq_append_getElem (by omega : i < (quos l t all).length), List.getD_eq_getElem?_getD, List.getElem?_eq_getElem (by omega)]
        rfl
      have n9 : (rests l t all).take i ++ [(rests l t all).getD i 0] = (rests l t all).take (i + 1) := by
        rw [List.take_succ_eq_append_getElem (by omega : i < (rests l t all).length), List.getD_eq_getElem?_getD, List.getElem?_eq_getElem (by omega)]
        rfl
      rw [if_pos (by omega), if_pos (by omega), if_neg (by omega), if_pos (by omega), rd_nat, w64 (x := l.getD i 0 * t) (by omega) (by omega), w64 (x := Int.tdiv (l.getD i 0 * t) all) (by omega) (by omega), ← quos_get h i c, ← rests_get h i c, n8, n9, Option.bind_some, if_pos (by omega), if_pos (by rw [List.length_take]; omega), rd_nat]
      have e0 : ((quos l t all).take (i + 1)).getD i 0 = (quos l t all).getD i 0 := by rw [List.getD_eq_getElem?_getD, List.getElem?_take, if_pos (by omega), List.getD_eq_getElem?_getD]
      rw [e0]
      have es := take_succ_sum (quos l t all) i (by omega)
      rw [← quos_get h i c] at a3 a4
      rw [w64 (x := (i : Int) + 1) (by omega) (by omega), w64 (by omega) (by omega)]
      have e2 : t - ((quos l t all).take i).sum - (quos l t all).getD i 0 = t - ((quos l t all).take (i + 1)).sum := by omega
      rw [e2]
      exact ref_share_l K hK (l.length - (i + 1)) (i + 1) rfl (by omega) (by omega) k (by omega)
    · obtain rfl : i = l.length := by omega
      obtain ⟨m0, m1, m2, _⟩ := h.miss
      have e1 : (quos l t all).take l.length = quos l t all := by rw [← ql, List.take_length]
      have e2 : (rests l t all).take l.length = rests l t all := by rw [← rl, List.take_length]
      have e3 : t - ((quos l t all).take l.length).sum = missing l t all := by rw [← ql, List.take_length]; rfl
      rw [if_neg (by omega), e3, e1, e2, hK k (by omega), Option.bind_some]
      obtain ⟨m, hm⟩ : ∃ m : Nat, missing l t all = (m : Int) := ⟨(missing l t all).toNat, by omega⟩
      rw [hm, Int.toNat_natCast]
      refine ref_bump _ l.length m (order_mem h 0) (by rw [order_len h]; omega) (by rw [order_len h]; omega) _ 0 _ rfl (Nat.zero_le _) ql (fun v hv => ?_) k (by omega)
      have := quos_mem h v hv
      omega
end

theorem own_share (l : List Int) (t : Int) (k : Nat) (hk : 10000 ≤ k) : rank_Share.f k l t = some (shareL l t) := by
  obtain ⟨k, rfl⟩ : ∃ q, k = q + 1 := ⟨k - 1, by omega⟩
  have hj : rank_Share.f (k + 1) l t = rank_Share.j0 (k + 1) l t (decide (t < 1 ∨ t > 4294967296)) := by
    rw [rank_Share.f]
    by_cases c : t < 1
    · rw [if_pos c, decide_eq_true (Or.inl c)]
    · rw [if_neg c]
      congr 1
      by_cases c2 : t > 4294967296
      · rw [decide_eq_true c2, decide_eq_true (Or.inr c2)]
      · rw [decide_eq_false c2, decide_eq_false (by omega)]
  rw [hj, rank_Share.j0, shareL]
  by_cases c : t < 1 ∨ t > 4294967296
  · rw [decide_eq_true c, if_pos rfl, if_pos c]
  · rw [decide_eq_false c, if_neg (by decide), if_neg c, own_sum l k (by omega), Option.bind_some]
    by_cases c2 : (sumL l).2 = 0
    · have h := shareOk c2 c
      have hlen := h.len
      rw [if_pos c2, if_neg (show ¬ (sumL l).2 ≠ 0 by rw [c2]; simp), if_pos (by omega), Int.toNat_natCast, if_pos (by omega)]
      have e1 := fillTo_zero (quos l t (sumL l).1)
      have e2 := fillTo_zero (rests l t (sumL l).1)
      rw [show (quos l t (sumL l).1).length = l.length by unfold quos; rw [List.length_map]] at e1
      rw [show (rests l t (sumL l).1).length = l.length by unfold rests; rw [List.length_map]] at e2
      have := own_share_l h _ 0 rfl (Nat.zero_le _) (by simp) k (by omega)
      rw [e1, e2] at this
      simpa using this
    · rw [if_neg c2, if_pos c2]
theorem ref_share (l : List Int) (t : Int) (hl : l.length < 17592186044416) : ∃ K, ∀ k, K ≤ k → r07_Share.f k l t = some (shareL l t) := by
  obtain ⟨K, hK⟩ := ref_order (rests l t (sumL l).1) (by unfold rests; rw [List.length_map]; exact hl)
  refine ⟨K + 10000, fun k hk => ?_⟩
  obtain ⟨k, rfl⟩ : ∃ q, k = q + 1 := ⟨k - 1, by omega⟩
  have hj : r07_Share.f (k + 1) l t = r07_Share.j0 (k + 1) l t (decide (t < 1 ∨ t > 4294967296)) := by
    rw [r07_Share.f]
    by_cases c : t < 1
    · rw [if_pos c, decide_eq_true (Or.inl c)]
    · rw [if_neg c]
      congr 1
      by_cases c2 : t > 4294967296
      · rw [decide_eq_true c2, decide_eq_true (Or.inr c2)]
      · rw [decide_eq_false c2, decide_eq_false (by omega)]
  rw [hj, r07_Share.j0, shareL]
  by_cases c : t < 1 ∨ t > 4294967296
  · rw [decide_eq_true c, if_pos rfl, if_pos c]
  · rw [decide_eq_false c, if_neg (by decide), if_neg c, ref_sum l k (by omega), Option.bind_some]
    by_cases c2 : (sumL l).2 = 0
    · have h := shareOk c2 c
      have hlen := h.len
      rw [if_pos c2, if_neg (show ¬ (sumL l).2 ≠ 0 by rw [c2]; simp)]
      have := ref_share_l h K hK _ 0 rfl (Nat.zero_le _) (by simp) k (by omega)
      simpa using this
    · rw [if_neg c2, if_pos c2]

theorem own_longs_l (l m : List Int) (he : l = m) (hl : l.length ≤ 17592186044416) : ∀ (d i : Nat), l.length - i = d → i ≤ l.length → ∀ k, d + 1 ≤ k → w07_longs.l0 k l m (i : Int) = some true
  | d, i, hd, hi, 0, hk => by omega
  | d, i, hd, hi, k + 1, hk => by
    subst he
    rw [w07_longs.l0]
    by_cases c : i < l.length
    · rw [if_pos (by omega), if_pos (by omega), if_pos (by omega), if_pos rfl, w64 (by omega) (by omega)]
      exact own_longs_l l l rfl hl (l.length - (i + 1)) (i + 1) rfl (by omega) k (by omega)
    · rw [if_neg (by omega)]
theorem own_longs (l : List Int) (hl : l.length ≤ 17592186044416) (k : Nat) (hk : l.length + 1 ≤ k) : w07_longs.f k l l = some true := by
  rw [w07_longs.f, if_pos rfl]
  exact own_longs_l l l rfl hl _ 0 rfl (Nat.zero_le _) k (by omega)
theorem length_bump : ∀ (is xs : List Int), (bump xs is).length = xs.length
  | [], xs => rfl
  | i :: r, xs => by
    show (bump (xs.set i.toNat (xs.getD i.toNat 0 + 1)) r).length = _
    rw [length_bump r, List.length_set]
theorem length_share (l : List Int) (t : Int) : (shareL l t).1.length ≤ l.length := by
  unfold shareL
  split
  · exact Nat.zero_le _
  · split
    · exact Nat.zero_le _
    · show (bump _ _).length ≤ _
      rw [length_bump]
      unfold quos
      rw [List.length_map]
      exact Nat.le_refl _
end Go.Proofs.Ytfegaffcalpmbaa.Pure
