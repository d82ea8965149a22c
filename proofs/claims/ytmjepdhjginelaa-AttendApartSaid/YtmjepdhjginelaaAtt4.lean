/- attend: places of what all heads see. -/
import Derived.Test.YtmjepdhjginelaaAtt3
namespace Go.Proofs.Ytmjepdhjginelaa.Pure
set_option linter.unusedSimpArgs false
set_option linter.unusedVariables false
open Go.RowKit Go.Proofs.YtmjepdhjginelaaW.PrintWords Go.Proofs.YtmjepdhjginelaaW.PrintLast Go.Proofs.YtmjepdhjginelaaW.PrintMore Go.Proofs.Ytmjepdhjginelaa.B Go.Proofs.Ytmjepdhjginelaa.St
theorem headsL_get (q : List Int) (ks vs : List (List Int)) (s : Int) (n : Nat) (hn : 1 ≤ n) : ∀ (H c : Nat), c < H * n → (headsL q ks vs s n H).getD c 0 = (headO q ks vs s (c / n * n) n).getD (c % n) 0
  | 0, c, h => by rw [Nat.zero_mul] at h; omega
  | H + 1, c, h => by
    have hl := headsL_len q ks vs s n H
    rw [headsL]
    by_cases e : c < H * n
    · rw [List.getD_eq_getElem?_getD, List.getElem?_append_left (by omega), ← List.getD_eq_getElem?_getD]
      exact headsL_get q ks vs s n hn H c e
    · have h2 : c = n * H + (c - H * n) := by rw [Nat.mul_comm n H]; omega
      have h3 : c - H * n < n := by rw [Nat.succ_mul] at h; omega
      have e1 : c / n = H := by rw [h2, Nat.mul_add_div (by omega), Nat.div_eq_of_lt h3, Nat.add_zero]
      have e2 : c % n = c - H * n := by
        conv => lhs; rw [h2]
        rw [Nat.mul_add_mod, Nat.mod_eq_of_lt h3]
      rw [List.getD_eq_getElem?_getD, List.getElem?_append_right (by omega), ← List.getD_eq_getElem?_getD, hl, e1, e2]
theorem look_get (q : List Int) (heads : Int) (ks vs : List (List Int)) (s : Int) (h0 : lookE q heads ks vs s = 0) (hl : vs.length = ks.length) (h8 : ∀ r ∈ vs, I8 r) (c : Nat) (hc : c < q.length) :
    ∃ w, WOK w ∧ w.length = vs.length ∧ (lookL q heads ks vs s).1.getD c 0 = meanL w (colL vs c) := by
  obtain ⟨⟨a1, a2, a3⟩, ⟨hk, hv⟩, a4⟩ := lookE_0 h0
  unfold lookL
  rw [if_neg (by rw [h0]; simp)]
  generalize q.length / heads.toNat = n at *
  have hg := headsL_get q ks vs s n a3 heads.toNat c (by omega)
  have hmod : c % n < n := Nat.mod_lt _ (by omega)
  have hdm : c / n * n + c % n = c := by rw [Nat.mul_comm]; exact Nat.div_add_mod c n
  have hlt : c / n < heads.toNat := by
    refine Nat.div_lt_of_lt_mul ?_
    rw [Nat.mul_comm]; omega
  have hp := place heads.toNat n (c / n) hlt
  have hfit1 := fit_cut q ks (c / n * n) n hk a3 (by omega)
  have hfit2 := fit_cut q vs (c / n * n) n hv a3 (by omega)
  have hr := head_rect (cutL (c / n * n) n q) (ks.map (cutL (c / n * n) n)) (vs.map (cutL (c / n * n) n)) s (scores_0 _ _ s hfit1 a4) (by rw [List.length_map, List.length_map]; exact hl) hfit2 (cut_rows_i8 _ n vs h8)
  refine ⟨_, hr.1, by rw [hr.2.1, List.length_map], ?_⟩
  show (headsL q ks vs s n heads.toNat).getD c 0 = _
  rw [hg]
  unfold headO meansL
  rw [List.getD_eq_getElem?_getD, List.getElem?_eq_getElem (by rw [List.length_map, List.length_range]; exact hmod), List.getElem_map, List.getElem_range]
  show meanL _ _ = _
  congr 1
  unfold colL
  rw [List.map_map]
  refine List.map_congr_left fun v hv2 => ?_
  show (cutL (c / n * n) n v).getD (c % n) 0 = _
  rw [cutL_getD _ _ _ _ hmod, hdm]
theorem headsL_cut (q : List Int) (ks vs : List (List Int)) (s : Int) (n h : Nat) : ∀ (H : Nat), h < H → cutL (h * n) n (headsL q ks vs s n H) = headO q ks vs s (h * n) n
  | 0, c => (Nat.not_lt_zero _ c).elim
  | H + 1, c => by
    have hl := headsL_len q ks vs s n H
    have ho := headO_len q ks vs s (H * n) n
    rw [headsL]
    by_cases e : h < H
    · have hp := place H n h e
      have ih := headsL_cut q ks vs s n h H e
      unfold cutL at ih ⊢
      rw [List.take_append_of_le_length (by omega)]
      exact ih
    · obtain rfl : h = H := by omega
      unfold cutL
      rw [List.take_of_length_le (by rw [List.length_append]; omega), List.drop_append_of_le_length (by omega), List.drop_of_length_le (by omega), List.nil_append]
theorem cut_all (n : Nat) (l : List Int) (h : l.length = n) : cutL 0 n l = l := by
  unfold cutL
  rw [List.drop_zero, List.take_of_length_le (by omega)]
theorem look_one (q : List Int) (ks vs : List (List Int)) (s : Int) (a n : Nat) (hk : fitL q ks = true) (hv : fitL q vs = true) (hs : 0 ≤ s ∧ s ≤ 31) (hn : 1 ≤ n) (ha : a + n ≤ q.length) :
    lookL (cutL a n q) 1 (ks.map (cutL a n)) (vs.map (cutL a n)) s = (headO q ks vs s a n, 0) := by
  have h1 := fit_cut q ks a n hk hn ha
  have h2 := fit_cut q vs a n hv hn ha
  have h0 : lookE (cutL a n q) 1 (ks.map (cutL a n)) (vs.map (cutL a n)) s = 0 := by
    unfold lookE
    rw [if_neg (by rintro (h | h); omega; exact h (Int.emod_one _)), if_neg (by rw [h1, h2]; simp), if_neg (by omega)]
  obtain ⟨⟨b1, b2, b3, b4⟩, b5⟩ := fitL_ok hk
  obtain ⟨⟨c1, c2, c3, c4⟩, c5⟩ := fitL_ok hv
  have hq := cutL_len a n q ha
  unfold lookL
  rw [if_neg (by rw [h0]; simp), hq]
  have e1 : (1 : Int).toNat = 1 := rfl
  rw [e1, Nat.div_one, headsL, headsL, List.nil_append, Nat.zero_mul]
  unfold headO
  have again : ∀ rows : List (List Int), (∀ r ∈ rows, r.length = q.length) → (rows.map (cutL a n)).map (cutL 0 n) = rows.map (cutL a n) := by
    intro rows h
    rw [List.map_map]
    refine List.map_congr_left fun r hr => ?_
    exact cut_all n _ (cutL_len a n r (by rw [h r hr]; exact ha))
  rw [cut_all n _ hq, again ks b5, again vs c5]
end Go.Proofs.Ytmjepdhjginelaa.Pure
