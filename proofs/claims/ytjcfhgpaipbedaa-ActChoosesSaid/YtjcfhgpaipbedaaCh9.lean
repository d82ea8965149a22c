/- What act.Choose answers is as the law asks it, for numbers of 8 bits. -/
import Derived.Test.YtjcfhgpaipbedaaCh8
namespace Go.Proofs.Ytjcfhgpaipbedaa.Ch
set_option linter.unusedVariables false
open Go.Proofs Go.RowKit Go.Proofs.YtjcfhgpaipbedaaW.PrintWords Go.Proofs.YtjcfhgpaipbedaaW.PrintLast Go.Proofs.YtjcfhgpaipbedaaW.PrintMore Go.Proofs.Ytjcfhgpaipbedaa.A Go.Proofs.Ytjcfhgpaipbedaa.St Go.Proofs.Ytjcfhgpaipbedaa.Pure
theorem near_low (n d : Int) (hd : 1 ≤ d) (hn : -549755813888 ≤ n ∧ n ≤ 549755813888) : -1099511627776 ≤ nearL n d ∧ nearL n d ≤ 1099511627776 := by
  have ht : (Int.tdiv n d).natAbs ≤ n.natAbs := Int.natAbs_tdiv_le_natAbs n d
  obtain ⟨a, b, h, ha⟩ : ∃ a b, fixed_Floor.f n d = some (a, b, 0) ∧ -549755813889 ≤ a ∧ a ≤ 549755813888 := by
    unfold fixed_Floor.f
    rw [if_neg (by omega), if_neg (by omega)]
    split
    · exact ⟨_, _, rfl, by unfold wrap64; omega⟩
    · exact ⟨_, _, rfl, by unfold wrap64; omega⟩
  unfold nearL fixed_Near.f
  rw [h]
  simp only [Option.bind_some, if_true]
  split
  · show -1099511627776 ≤ wrap64 (a + 1) ∧ wrap64 (a + 1) ≤ 1099511627776
    unfold wrap64; omega
  · split
    · split
      · show -1099511627776 ≤ wrap64 (a + 1) ∧ wrap64 (a + 1) ≤ 1099511627776
        unfold wrap64; omega
      · show -1099511627776 ≤ a ∧ a ≤ 1099511627776
        omega
    · show -1099511627776 ≤ a ∧ a ≤ 1099511627776
      omega
theorem mul_low (x y : Int) (hx : -128 ≤ x ∧ x ≤ 127) (hy : -128 ≤ y ∧ y ≤ 127) : -16384 ≤ x * y ∧ x * y ≤ 16384 := by
  have h := Int.natAbs_mul x y
  have h2 : x.natAbs * y.natAbs ≤ 128 * 128 := Nat.mul_le_mul (by omega) (by omega)
  omega
theorem dot_low : ∀ (q y : List Int) (a B : Int), I8 q → I8 y → -B ≤ a ∧ a ≤ B → B + 16384 * (q.length : Int) ≤ 549755813888 → -549755813888 ≤ dotA a q y ∧ dotA a q y ≤ 549755813888
  | [], y, a, B, _, _, ha, hB => by
    have e : dotA a [] y = a := by cases y <;> rfl
    rw [e]
    simp at hB
    omega
  | x :: q, [], a, B, _, _, ha, hB => by
    show -549755813888 ≤ a ∧ a ≤ 549755813888
    rw [List.length_cons] at hB
    omega
  | x :: q, z :: y, a, B, hq, hy, ha, hB => by
    have h1 := hq x List.mem_cons_self
    have h2 := hy z List.mem_cons_self
    have h3 := mul_low x z h1 h2
    rw [List.length_cons] at hB
    have e1 : wrap64 x = x := by unfold wrap64; omega
    have e2 : wrap64 z = z := by unfold wrap64; omega
    show -549755813888 ≤ dotA (wrap64 (a + wrap64 (wrap64 x * wrap64 z))) q y ∧ dotA (wrap64 (a + wrap64 (wrap64 x * wrap64 z))) q y ≤ 549755813888
    rw [e1, e2]
    generalize x * z = m at h3 ⊢
    have e3 : wrap64 (a + wrap64 m) = a + m := by unfold wrap64; omega
    show -549755813888 ≤ dotA (wrap64 (a + wrap64 m)) q y ∧ dotA (wrap64 (a + wrap64 m)) q y ≤ 549755813888
    rw [e3]
    exact dot_low q y (a + m) (B + 16384) (fun u hu => hq u (List.mem_cons_of_mem _ hu)) (fun u hu => hy u (List.mem_cons_of_mem _ hu)) (by omega) (by omega)
theorem times_low {r h T : List Int} {E : Int} (hr : I8 r) (hh : I8 h) (hE : timesL r h.length h = (T, E)) : ∀ x ∈ T, -549755813888 ≤ x ∧ x ≤ 549755813888 := by
  unfold timesL at hE
  by_cases c : matE r h.length = 0
  · rw [if_pos c, if_pos rfl] at hE
    injection hE with e1 e2
    subst e1
    intro x hx
    obtain ⟨j, hj, rfl⟩ := List.mem_map.1 hx
    have hl : r.length ≤ 1048576 := by
      unfold matE at c
      by_cases c2 : r.length > 1048576
      · rw [if_pos c2] at c
        omega
      · omega
    refine dot_low _ _ 0 0 (fun u hu => hr u (List.mem_of_mem_take (List.mem_of_mem_drop hu))) hh (by omega) ?_
    have : (chunkL r h.length j).length ≤ r.length := by
      unfold chunkL
      rw [List.length_drop, List.length_take]
      omega
    omega
  · rw [if_neg c] at hE
    injection hE with e1 e2
    subst e1
    intro x hx
    cases hx
theorem scale_low {T L : List Int} {s E : Int} (hT : ∀ x ∈ T, -549755813888 ≤ x ∧ x ≤ 549755813888) (hE : scaleL T s = (L, E)) : Low L := by
  unfold scaleL at hE
  split at hE
  · injection hE with e1 e2
    subst e1
    intro x hx
    cases hx
  · split at hE
    · injection hE with e1 e2
      subst e1
      intro x hx
      cases hx
    · injection hE with e1 e2
      subst e1
      intro x hx
      obtain ⟨y, hy, rfl⟩ := List.mem_map.1 hx
      refine near_low _ _ ?_ (hT y hy)
      have : 0 < 2 ^ s.toNat := Nat.pow_pos (by omega)
      omega
theorem bad_chosen (E : Int) (h : E ≠ 0) : Chosen [] [] E := ⟨by simp, rfl, fun _ => rfl, fun i j _ hj => by simp at hj, fun e => absurd e h⟩
theorem chosen {r h O P : List Int} {s k E : Int} (hr : I8 r) (hh : I8 h) (hE : chooseL r h s k = (O, P, E)) : Chosen O P E := by
  obtain ⟨T, TE, hT⟩ : ∃ T TE, timesL r h.length h = (T, TE) := ⟨_, _, rfl⟩
  obtain ⟨L, LE, hL⟩ : ∃ L LE, scaleL T s = (L, LE) := ⟨_, _, rfl⟩
  have hlow := scale_low (times_low hr hh hT) hL
  have hlen : L.length ≤ 1048576 := by have h1 := scaleL_len T s; rw [hL] at h1; exact h1
  unfold chooseL at hE
  rw [hT] at hE
  simp only [hL] at hE
  by_cases c1 : TE ≠ 0
  · rw [if_pos c1] at hE
    injection hE with e1 e2
    injection e2 with e2 e3
    subst e1 e2 e3
    exact bad_chosen _ c1
  · rw [if_neg c1] at hE
    by_cases c2 : LE ≠ 0
    · rw [if_pos c2] at hE
      injection hE with e1 e2
      injection e2 with e2 e3
      subst e1 e2 e3
      exact bad_chosen _ c2
    · rw [if_neg c2] at hE
      by_cases c3 : k < 1 ∨ k > (L.length : Int)
      · rw [if_pos c3] at hE
        injection hE with e1 e2
        injection e2 with e2 e3
        subst e1 e2 e3
        exact bad_chosen _ (by omega)
      · rw [if_neg c3] at hE
        injection hE with e1 e2
        injection e2 with e2 e3
        obtain ⟨kk, rfl⟩ : ∃ kk : Nat, k = (kk : Int) := ⟨k.toNat, by omega⟩
        rw [Int.toNat_natCast] at e1 e2
        have hol : ((orderL L).take kk).length = kk := by rw [List.length_take, orderL_len]; omega
        have hpl : (powL L ((orderL L).take kk)).length = kk := by unfold powL; rw [List.length_map]; exact hol
        have hwl : (wholeL (powL L ((orderL L).take kk))).length = kk := by unfold wholeL quoL; rw [List.length_set, List.length_map]; exact hpl
        have hps := pow_sum L ((orderL L).take kk) (fun e => by rw [e] at hol; have h1 : (0 : Nat) = kk := hol; omega)
        subst e1 e2 e3
        refine ⟨by omega, by omega, fun h0 => absurd rfl h0, fun i j hij hj => ?_, fun _ => ?_⟩
        · rw [hol] at hj
          rw [take_getD _ _ _ (by omega), take_getD _ _ _ hj]
          exact (order_falls L i j hij (by omega)).2
        · refine whole_fit _ (pow_bounds L _) (by omega) (by omega) (fun i h0 hi => ?_)
          rw [hpl] at hi
          exact pow_falls L hlow kk (by omega) (i - 1) i (by omega) hi
end Go.Proofs.Ytjcfhgpaipbedaa.Ch
