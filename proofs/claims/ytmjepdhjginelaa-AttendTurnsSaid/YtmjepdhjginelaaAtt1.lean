/- attend and its reference: what rounds tell; products, shifts, scores. -/
import Derived.Test.YtmjepdhjginelaaB3
namespace Go.Proofs.Ytmjepdhjginelaa.Pure
set_option linter.unusedSimpArgs false
set_option linter.unusedVariables false
set_option linter.unusedSectionVars false
open Go.RowKit Go.Proofs.YtmjepdhjginelaaW.PrintWords Go.Proofs.YtmjepdhjginelaaW.PrintLast Go.Proofs.YtmjepdhjginelaaW.PrintMore Go.Proofs.Ytmjepdhjginelaa.B Go.Proofs.Ytmjepdhjginelaa.St

theorem ev_pos {α : Type} {c : Prop} [Decidable c] {A B : Nat → Option α} {r : α} (h : c) (e : Ev A r) : Ev (fun k => if c then A k else B k) r := by
  refine Ev.congr (fun k => ?_) e
  rw [if_pos h]
theorem ev_neg {α : Type} {c : Prop} [Decidable c] {A B : Nat → Option α} {r : α} (h : ¬ c) (e : Ev B r) : Ev (fun k => if c then A k else B k) r := by
  refine Ev.congr (fun k => ?_) e
  rw [if_neg h]
theorem ev_some {α β : Type} {a : α} {f : Nat → α → Option β} {r : β} (e : Ev (fun k => f k a) r) : Ev (fun k => (some a).bind fun y => f k y) r := e
theorem ev_is {α β : Type} {o : Option α} {a : α} {f : Nat → α → Option β} {r : β} (h : o = some a) (e : Ev (fun k => f k a) r) : Ev (fun k => o.bind fun y => f k y) r := by
  subst h; exact e
theorem ev_rounds {α : Type} {g : Nat → Option α} {r : α} (h : Ev g r) : ∃ k, g k = some r := by
  obtain ⟨K, h⟩ := h
  exact ⟨K, h K (Nat.le_refl _)⟩
theorem w64 {x : Int} (h1 : -9223372036854775808 ≤ x) (h2 : x < 9223372036854775808) : wrap64 x = x := by unfold wrap64; omega
theorem w1 (i : Nat) (h : i < 4611686018427387904) : wrap64 ((i : Int) + 1) = ((i + 1 : Nat) : Int) := by rw [w64 (by omega) (by omega)]; omega
theorem rd_nat (l : List Int) (i : Nat) : rd l (i : Int) = l.getD i 0 := by unfold rd; rw [Int.toNat_natCast]
theorem rdL (l : List (List Int)) (i : Nat) : rd_L1 l (i : Int) = l.getD i [] := by unfold rd_L1; rw [Int.toNat_natCast]
theorem drop_get (l : List Int) (i : Nat) (h : i < l.length) : l.drop i = l.getD i 0 :: l.drop (i + 1) := by
  rw [List.drop_eq_getElem_cons h, List.getD_eq_getElem?_getD, List.getElem?_eq_getElem h]
  rfl
theorem drop_getL (l : List (List Int)) (i : Nat) (h : i < l.length) : l.drop i = l.getD i [] :: l.drop (i + 1) := by
  rw [List.drop_eq_getElem_cons h, List.getD_eq_getElem?_getD, List.getElem?_eq_getElem h]
  rfl
theorem getD_memL (l : List (List Int)) (i : Nat) (h : i < l.length) : l.getD i [] ∈ l := by
  rw [List.getD_eq_getElem?_getD, List.getElem?_eq_getElem h]
  exact List.getElem_mem h

/-! ### what fits -/
def fitL (q : List Int) (keys : List (List Int)) : Bool := decide (1 ≤ keys.length ∧ keys.length ≤ 512 ∧ 1 ≤ q.length ∧ q.length ≤ 64) && keys.all fun k => k.length == q.length
theorem fitL_ok {q : List Int} {keys : List (List Int)} (h : fitL q keys = true) : (1 ≤ keys.length ∧ keys.length ≤ 512 ∧ 1 ≤ q.length ∧ q.length ≤ 64) ∧ ∀ k ∈ keys, k.length = q.length := by
  unfold fitL at h
  rw [Bool.and_eq_true, decide_eq_true_eq, List.all_eq_true] at h
  exact ⟨h.1, fun k hk => by have := h.2 k hk; exact beq_iff_eq.1 this⟩
theorem fit_l (q : List Int) (keys : List (List Int)) (h : keys.length ≤ 512) : ∀ (d i : Nat), keys.length - i = d → i ≤ keys.length → Ev (fun k => attend_fit.l0 k q keys (keys.length : Int) (i : Int)) ((keys.drop i).all fun k => k.length == q.length)
  | d, i, hd, hi => by
    refine Ev.step (fun k => by rw [attend_fit.l0]) ?_
    by_cases c : i < keys.length
    · obtain ⟨d, rfl⟩ : ∃ e, d = e + 1 := ⟨d - 1, by omega⟩
      rw [drop_getL keys i c, List.all_cons, rdL, w1 i (by omega)]
      refine ev_pos (by omega) (ev_pos (by omega) (ev_pos (by omega) ?_))
      by_cases e : (keys.getD i []).length = q.length
      · rw [show ((keys.getD i []).length == q.length) = true from beq_iff_eq.2 e, Bool.true_and]
        exact ev_pos (by omega) (fit_l q keys h d (i + 1) (by omega) (by omega))
      · rw [show ((keys.getD i []).length == q.length) = false from beq_eq_false_iff_ne.2 e, Bool.false_and]
        exact ev_neg (by omega) (Ev.now _)
    · rw [List.drop_eq_nil_of_le (by omega)]
      exact ev_neg (by omega) (Ev.now _)
theorem fit_ev (q : List Int) (keys : List (List Int)) : Ev (fun k => attend_fit.f k q keys) (fitL q keys) := by
  have bad : ¬ (1 ≤ keys.length ∧ keys.length ≤ 512 ∧ 1 ≤ q.length ∧ q.length ≤ 64) → Ev (fun k => attend_fit.j0 k q keys true) (fitL q keys) := fun h => by
    unfold fitL
    rw [decide_eq_false h, Bool.false_and]
    refine Ev.step (fun k => by rw [attend_fit.j0]) ?_
    exact ev_pos rfl (Ev.now _)
  unfold attend_fit.f
  by_cases c1 : (keys.length : Int) = 0
  · exact ev_pos c1 (bad (by omega))
  refine ev_neg c1 ?_
  by_cases c2 : (keys.length : Int) > 512
  · exact ev_pos c2 (bad (by omega))
  refine ev_neg c2 ?_
  by_cases c3 : (q.length : Int) = 0
  · exact ev_pos c3 (bad (by omega))
  refine ev_neg c3 ?_
  by_cases c4 : (q.length : Int) > 64
  · rw [decide_eq_true c4]
    exact bad (by omega)
  rw [decide_eq_false c4]
  unfold fitL
  rw [decide_eq_true (by omega), Bool.true_and]
  refine Ev.step (fun k => by rw [attend_fit.j0]) ?_
  exact ev_neg (by decide) (fit_l q keys (by omega) _ 0 rfl (Nat.zero_le _))
theorem wrong_l (q : List Int) (keys : List (List Int)) (h : keys.length ≤ 512) : ∀ (d i : Nat), keys.length - i = d → i ≤ keys.length → Ev (fun k => r19_wrong.l0 k q keys (i : Int)) (!(keys.drop i).all fun k => k.length == q.length)
  | d, i, hd, hi => by
    refine Ev.step (fun k => by rw [r19_wrong.l0]) ?_
    by_cases c : i < keys.length
    · obtain ⟨d, rfl⟩ : ∃ e, d = e + 1 := ⟨d - 1, by omega⟩
      rw [drop_getL keys i c, List.all_cons, rdL, w1 i (by omega)]
      refine ev_pos (by omega) (ev_pos (by omega) ?_)
      by_cases e : (keys.getD i []).length = q.length
      · rw [show ((keys.getD i []).length == q.length) = true from beq_iff_eq.2 e, Bool.true_and]
        exact ev_pos (by omega) (wrong_l q keys h d (i + 1) (by omega) (by omega))
      · rw [show ((keys.getD i []).length == q.length) = false from beq_eq_false_iff_ne.2 e, Bool.false_and]
        exact ev_neg (by omega) (Ev.now _)
    · rw [List.drop_eq_nil_of_le (by omega)]
      exact ev_neg (by omega) (Ev.now _)
theorem wrong_ev (q : List Int) (keys : List (List Int)) : Ev (fun k => r19_wrong.f k q keys) (!fitL q keys) := by
  have bad : ¬ (1 ≤ keys.length ∧ keys.length ≤ 512 ∧ 1 ≤ q.length ∧ q.length ≤ 64) → Ev (fun k => r19_wrong.j0 k q keys true) (!fitL q keys) := fun h => by
    unfold fitL
    rw [decide_eq_false h, Bool.false_and]
    refine Ev.step (fun k => by rw [r19_wrong.j0]) ?_
    exact ev_pos rfl (Ev.now _)
  unfold r19_wrong.f
  by_cases c1 : (keys.length : Int) < 1
  · exact ev_pos c1 (bad (by omega))
  refine ev_neg c1 ?_
  by_cases c2 : (keys.length : Int) > 512
  · exact ev_pos c2 (bad (by omega))
  refine ev_neg c2 ?_
  by_cases c3 : (q.length : Int) < 1
  · exact ev_pos c3 (bad (by omega))
  refine ev_neg c3 ?_
  by_cases c4 : (q.length : Int) > 64
  · rw [decide_eq_true c4]
    exact bad (by omega)
  rw [decide_eq_false c4]
  unfold fitL
  rw [decide_eq_true (by omega), Bool.true_and]
  refine Ev.step (fun k => by rw [r19_wrong.j0]) ?_
  exact ev_neg (by decide) (wrong_l q keys (by omega) _ 0 rfl (Nat.zero_le _))

/-! ### products -/
def dotA (a : Int) : List Int → List Int → Int
  | x :: q, y :: k => dotA (wrap64 (a + wrap64 (wrap64 x * wrap64 y))) q k
  | _, _ => a
theorem dot_l (q y : List Int) (hl : q.length = y.length) (hs : q.length ≤ 64) (R : Int) : ∀ (d i : Nat) (a : Int), q.length - i = d → i ≤ q.length → dotA a (q.drop i) (y.drop i) = R → Ev (fun k => vec_dot.l0 k y a q (q.length : Int) (i : Int)) R
  | d, i, a, hd, hi, h => by
    refine Ev.step (fun k => by rw [vec_dot.l0]) ?_
    by_cases c : i < q.length
    · obtain ⟨d, rfl⟩ : ∃ e, d = e + 1 := ⟨d - 1, by omega⟩
      rw [drop_get q i c, drop_get y i (by omega), dotA] at h
      rw [rd_nat, rd_nat, w1 i (by omega)]
      exact ev_pos (by omega) (ev_pos (by omega) (ev_pos (by omega) (ev_pos (by omega) (dot_l q y hl hs R d (i + 1) _ (by omega) (by omega) h))))
    · rw [List.drop_eq_nil_of_le (by omega)] at h
      have h' : a = R := by rw [← h]; cases (y.drop i) <;> rfl
      rw [h']
      exact ev_neg (by omega) (Ev.now _)
theorem rdot_l (q y : List Int) (hl : q.length = y.length) (hs : q.length ≤ 64) (R : Int) : ∀ (d i : Nat) (a : Int), q.length - i = d → i ≤ q.length → dotA a (q.drop i) (y.drop i) = R → Ev (fun k => r08_Dot.l0 k q y a (q.length : Int) (i : Int)) (R, 0)
  | d, i, a, hd, hi, h => by
    refine Ev.step (fun k => by rw [r08_Dot.l0]) ?_
    by_cases c : i < q.length
    · obtain ⟨d, rfl⟩ : ∃ e, d = e + 1 := ⟨d - 1, by omega⟩
      rw [drop_get q i c, drop_get y i (by omega), dotA] at h
      rw [rd_nat, rd_nat, w1 i (by omega)]
      exact ev_pos (by omega) (ev_pos (by omega) (ev_pos (by omega) (ev_pos (by omega) (rdot_l q y hl hs R d (i + 1) _ (by omega) (by omega) h))))
    · rw [List.drop_eq_nil_of_le (by omega)] at h
      have h' : a = R := by rw [← h]; cases (y.drop i) <;> rfl
      rw [h']
      exact ev_neg (by omega) (Ev.now _)
theorem vfit (q y : List Int) (hl : q.length = y.length) (hs : q.length ≤ 64) : Ev (fun k => vec_fit_int8.f k [q, y]) 0 := by
  unfold vec_fit_int8.f
  have e1 : wrap64 ((0 : Int) + 1) = 1 := w64 (by decide) (by decide)
  have e2 : wrap64 ((1 : Int) + 1) = 2 := w64 (by decide) (by decide)
  have hn : (([q, y].length : Nat) : Int) = 2 := rfl
  have r0 : rd_L1 [q, y] 0 = q := rfl
  have r1 : rd_L1 [q, y] 1 = y := rfl
  rw [hn]
  refine Ev.step (fun k => by rw [vec_fit_int8.l0]) ?_
  rw [e1, hn, r0]
  refine ev_pos (by omega) (ev_pos (by omega) (ev_pos (by omega) (ev_neg (by omega) ?_)))
  refine Ev.step (fun k => by rw [vec_fit_int8.l0]) ?_
  rw [e2, hn, r1]
  refine ev_pos (by omega) (ev_pos (by omega) (ev_pos (by omega) (ev_neg (by omega) ?_)))
  refine Ev.step (fun k => by rw [vec_fit_int8.l0]) ?_
  rw [hn]
  refine ev_neg (by omega) ?_
  refine Ev.step (fun k => by rw [vec_fit_int8.l1]) ?_
  rw [e1, hn, r0]
  refine ev_pos (by omega) (ev_pos (by omega) (ev_pos (by omega) (ev_pos (by omega) (ev_pos rfl ?_))))
  refine Ev.step (fun k => by rw [vec_fit_int8.l1]) ?_
  rw [e2, hn, r0, r1]
  refine ev_pos (by omega) (ev_pos (by omega) (ev_pos (by omega) (ev_pos (by omega) (ev_pos (by omega) ?_))))
  refine Ev.step (fun k => by rw [vec_fit_int8.l1]) ?_
  exact ev_neg (by omega) (Ev.now _)
theorem own_dot (q y : List Int) (hl : q.length = y.length) (hs : q.length ≤ 64) : Ev (fun k => vec_Dot.f k q y) (dotA 0 q y, 0) := by
  unfold vec_Dot.f
  exact Ev.bind (vfit q y hl hs) (ev_pos rfl (Ev.bind (dot_l q y hl hs _ _ 0 0 rfl (Nat.zero_le _) rfl) (Ev.now _)))
theorem ref_dot (q y : List Int) (hl : q.length = y.length) (hs : q.length ≤ 64) : Ev (fun k => r08_Dot.f k q y) (dotA 0 q y, 0) := by
  unfold r08_Dot.f
  refine ev_neg (by omega) ?_
  rw [decide_eq_false (by omega)]
  refine Ev.step (fun k => by rw [r08_Dot.j0]) ?_
  exact ev_neg (by decide) (ev_pos (by omega) (rdot_l q y hl hs _ _ 0 0 rfl (Nat.zero_le _) rfl))

/-! ### shifts -/
theorem and1 (x : Int) : Go.bits .and .i64 x 1 = x % 2 := by
  unfold Go.bits
  simp only [BitVec.toNat_and, BitVec.toNat_ofInt]
  rw [IntKind.wrap_i64]
  have h1 : ((1 : Int) % ((2 ^ IntKind.i64.bits : Nat) : Int)).toNat = 1 := by decide
  rw [h1, Nat.and_one_is_mod]
  have h2 : ((2 ^ IntKind.i64.bits : Nat) : Int) = 18446744073709551616 := by decide
  rw [h2]
  omega
theorem near_ev (n d : Int) (hd : 1 ≤ d) : ∃ v, fixed_Near.f n d = some (v, 0) ∧ r02_Near.f n d = some (v, 0) := by
  have hf : r02_Floor.f n d = fixed_Floor.f n d := rfl
  obtain ⟨a, b, h⟩ : ∃ a b, fixed_Floor.f n d = some (a, b, 0) := by
    unfold fixed_Floor.f
    rw [if_neg (by omega), if_neg (by omega)]
    split
    · exact ⟨_, _, rfl⟩
    · exact ⟨_, _, rfl⟩
  unfold fixed_Near.f r02_Near.f
  rw [hf, h]
  simp only [Option.bind_some, if_true]
  by_cases c1 : b > wrap64 (d - b)
  · rw [if_pos c1, if_pos c1]; exact ⟨_, rfl, rfl⟩
  rw [if_neg c1, if_neg c1]
  by_cases c2 : b = wrap64 (d - b)
  · rw [if_pos c2, if_pos c2, and1]
    have hm : Int.tmod a 2 = 0 ↔ a % 2 = 0 := ⟨fun h => Int.emod_eq_zero_of_dvd (Int.dvd_of_tmod_eq_zero h), fun h => Int.tmod_eq_zero_of_dvd (Int.dvd_of_emod_eq_zero h)⟩
    by_cases c3 : a % 2 = 1
    · rw [if_pos c3, if_neg (by rw [hm]; omega)]; exact ⟨_, rfl, rfl⟩
    · rw [if_neg c3, if_pos (by rw [hm]; omega)]; exact ⟨_, rfl, rfl⟩
  · rw [if_neg c2, if_neg c2]; exact ⟨_, rfl, rfl⟩
def nearL (n d : Int) : Int := ((fixed_Near.f n d).getD (0, 0)).1
theorem near_own (n d : Int) (hd : 1 ≤ d) : fixed_Near.f n d = some (nearL n d, 0) := by
  obtain ⟨v, h, _⟩ := near_ev n d hd
  unfold nearL
  rw [h]; rfl
theorem near_ref (n d : Int) (hd : 1 ≤ d) : r02_Near.f n d = some (nearL n d, 0) := by
  obtain ⟨v, h, h2⟩ := near_ev n d hd
  unfold nearL
  rw [h, h2]; rfl
def roundL (n : Int) (s : Nat) : Int := nearL n ((2 ^ s : Nat) : Int)
theorem shl1 : ∀ s : Fin 32, shl .i64 1 ((s.1 : Nat) : Int) = ((2 ^ s.1 : Nat) : Int) := by decide
theorem own_round (n : Int) (s : Nat) (hs : s ≤ 31) : fixed_Round.f n (s : Int) = some (roundL n s, 0) := by
  unfold fixed_Round.f
  rw [if_neg (by omega), if_neg (by omega), if_pos (by omega), shl1 ⟨s, by omega⟩, near_own _ _ (by have := Nat.two_pow_pos s; show (1 : Int) ≤ ((2 ^ s : Nat) : Int); omega)]
  rfl
theorem pow31 (i : Nat) (h : i ≤ 31) : ((2 ^ i : Nat) : Int) ≤ 2147483648 := by
  have := Nat.pow_le_pow_right (n := 2) (by decide) h
  omega
theorem round_l (n : Int) (s : Nat) (hs : s ≤ 31) : ∀ (d i : Nat), s - i = d → i ≤ s → Ev (fun k => r02_Round.l0 k n (s : Int) ((2 ^ i : Nat) : Int) (i : Int)) (roundL n s, 0)
  | d, i, hd, hi => by
    refine Ev.step (fun k => by rw [r02_Round.l0]) ?_
    by_cases c : i < s
    · obtain ⟨d, rfl⟩ : ∃ e, d = e + 1 := ⟨d - 1, by omega⟩
      have := pow31 i (by omega)
      have h0 : (0 : Int) ≤ ((2 ^ i : Nat) : Int) := Int.natCast_nonneg _
      have hp : ((2 ^ i : Nat) : Int) * 2 = ((2 ^ (i + 1) : Nat) : Int) := by rw [Nat.pow_succ]; omega
      rw [w1 i (by omega), w64 (x := ((2 ^ i : Nat) : Int) * 2) (by omega) (by omega), hp]
      exact ev_pos (by omega) (round_l n s hs d (i + 1) (by omega) (by omega))
    · obtain rfl : i = s := by omega
      refine ev_neg (by omega) (ev_is (near_ref n _ (by have := Nat.two_pow_pos i; omega)) (Ev.now _))
theorem ref_round (n : Int) (s : Nat) (hs : s ≤ 31) : Ev (fun k => r02_Round.f k n (s : Int)) (roundL n s, 0) := by
  unfold r02_Round.f
  refine ev_neg (by omega) ?_
  rw [decide_eq_false (by omega)]
  refine Ev.step (fun k => by rw [r02_Round.j0]) ?_
  exact ev_neg (by decide) (round_l n s hs _ 0 rfl (Nat.zero_le _))

/-! ### scores -/
def scoresL (q : List Int) (keys : List (List Int)) (s : Int) : List Int × Int :=
  if fitL q keys = false then ([], 191) else if s < 0 ∨ s > 31 then ([], 20) else (keys.map fun k => roundL (dotA 0 q k) s.toNat, 0)
theorem own_sc_l (q : List Int) (keys : List (List Int)) (s : Nat) (hs : s ≤ 31) (hf : fitL q keys = true) : ∀ (d i : Nat), keys.length - i = d → i ≤ keys.length → Ev (fun k => attend_Scores.l0 k q (s : Int) ((keys.take i).map fun k => roundL (dotA 0 q k) s) keys (keys.length : Int) (i : Int)) (keys.map fun k => roundL (dotA 0 q k) s, 0)
  | d, i, hd, hi => by
    obtain ⟨⟨h1, h2, h3, h4⟩, h5⟩ := fitL_ok hf
    refine Ev.step (fun k => by rw [attend_Scores.l0]) ?_
    by_cases c : i < keys.length
    · obtain ⟨d, rfl⟩ : ∃ e, d = e + 1 := ⟨d - 1, by omega⟩
      have hy := h5 _ (getD_memL keys i c)
      have hgo := own_sc_l q keys s hs hf d (i + 1) (by omega) (by omega)
      rw [List.take_succ_eq_append_getElem c, List.map_append, List.map_cons, List.map_nil] at hgo
      rw [rdL, w1 i (by omega)]
      refine ev_pos (by omega) (ev_pos (by omega) (ev_pos (by omega) (Ev.bind (own_dot q _ hy.symm h4) (ev_is (own_round _ s hs) (ev_pos (by rw [List.length_map, List.length_take]; omega) ?_)))))
      have he : keys.getD i [] = keys[i] := by rw [List.getD_eq_getElem?_getD, List.getElem?_eq_getElem c]; rfl
      rw [he]
      exact hgo
    · obtain rfl : i = keys.length := by omega
      rw [List.take_length]
      exact ev_neg (by omega) (Ev.now _)
theorem own_scores (q : List Int) (keys : List (List Int)) (s : Int) : Ev (fun k => attend_Scores.f k q keys s) (scoresL q keys s) := by
  unfold attend_Scores.f scoresL
  refine Ev.bind (fit_ev q keys) ?_
  cases hf : fitL q keys with
  | false => rw [if_pos rfl]; exact ev_neg (by decide) (Ev.now _)
  | true =>
    rw [if_neg (by decide)]
    refine ev_pos rfl ?_
    by_cases c1 : s < 0
    · rw [if_pos (Or.inl c1)]; exact ev_pos c1 (Ev.now _)
    by_cases c2 : s > 31
    · rw [if_pos (Or.inr c2)]; exact ev_neg c1 (ev_pos c2 (Ev.now _))
    rw [if_neg (by omega)]
    refine ev_neg c1 (ev_neg c2 ?_)
    have h := own_sc_l q keys s.toNat (by omega) hf _ 0 rfl (Nat.zero_le _)
    rw [show ((s.toNat : Nat) : Int) = s by omega] at h
    exact h
theorem ref_sc_l (q : List Int) (keys : List (List Int)) (s : Nat) (hs : s ≤ 31) (hf : fitL q keys = true) : ∀ (d i : Nat), keys.length - i = d → i ≤ keys.length → Ev (fun k => r19_Scores.l0 k q keys (s : Int) ((keys.take i).map fun k => roundL (dotA 0 q k) s) (i : Int)) (keys.map fun k => roundL (dotA 0 q k) s, 0)
  | d, i, hd, hi => by
    obtain ⟨⟨h1, h2, h3, h4⟩, h5⟩ := fitL_ok hf
    refine Ev.step (fun k => by rw [r19_Scores.l0]) ?_
    by_cases c : i < keys.length
    · obtain ⟨d, rfl⟩ : ∃ e, d = e + 1 := ⟨d - 1, by omega⟩
      have hy := h5 _ (getD_memL keys i c)
      have hgo := ref_sc_l q keys s hs hf d (i + 1) (by omega) (by omega)
      rw [List.take_succ_eq_append_getElem c, List.map_append, List.map_cons, List.map_nil] at hgo
      rw [rdL, w1 i (by omega)]
      refine ev_pos (by omega) (ev_pos (by omega) (Ev.bind (ref_dot q _ hy.symm h4) (Ev.bind (ref_round _ s hs) (ev_pos (by rw [List.length_map, List.length_take]; omega) ?_))))
      have he : keys.getD i [] = keys[i] := by rw [List.getD_eq_getElem?_getD, List.getElem?_eq_getElem c]; rfl
      rw [he]
      exact hgo
    · obtain rfl : i = keys.length := by omega
      rw [List.take_length]
      exact ev_neg (by omega) (Ev.now _)
theorem ref_scores (q : List Int) (keys : List (List Int)) (s : Int) : Ev (fun k => r19_Scores.f k q keys s) (scoresL q keys s) := by
  unfold r19_Scores.f scoresL
  refine Ev.bind (wrong_ev q keys) ?_
  cases hf : fitL q keys with
  | false => rw [if_pos rfl]; exact ev_pos rfl (Ev.now _)
  | true =>
    rw [if_neg (by decide)]
    refine ev_neg (by decide) ?_
    by_cases c1 : s < 0
    · rw [if_pos (Or.inl c1)]
      refine ev_pos c1 (Ev.step (fun k => by rw [r19_Scores.j0]) ?_)
      exact ev_pos rfl (Ev.now _)
    by_cases c2 : s > 31
    · rw [if_pos (Or.inr c2)]
      refine ev_neg c1 ?_
      rw [decide_eq_true c2]
      refine Ev.step (fun k => by rw [r19_Scores.j0]) ?_
      exact ev_pos rfl (Ev.now _)
    rw [if_neg (by omega)]
    refine ev_neg c1 ?_
    rw [decide_eq_false c2]
    refine Ev.step (fun k => by rw [r19_Scores.j0]) ?_
    refine ev_neg (by decide) ?_
    have h := ref_sc_l q keys s.toNat (by omega) hf _ 0 rfl (Nat.zero_le _)
    rw [show ((s.toNat : Nat) : Int) = s by omega] at h
    exact h
theorem scoresL_len (q : List Int) (keys : List (List Int)) (s : Int) : (scoresL q keys s).1.length ≤ 512 := by
  unfold scoresL
  cases hf : fitL q keys with
  | false => exact Nat.zero_le _
  | true =>
    obtain ⟨⟨h1, h2, h3, h4⟩, h5⟩ := fitL_ok hf
    rw [if_neg (by decide)]
    split
    · exact Nat.zero_le _
    · rw [List.length_map]; exact h2
end Go.Proofs.Ytmjepdhjginelaa.Pure
