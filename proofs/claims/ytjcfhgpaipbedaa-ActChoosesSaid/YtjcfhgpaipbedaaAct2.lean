/- act and its reference: matrices, scales, middles. -/
import Derived.Test.YtjcfhgpaipbedaaAct1
import Derived.Test.YtjcfhgpaipbedaaA11
import Derived.Test.YtjcfhgpaipbedaaA13
namespace Go.Proofs.Ytjcfhgpaipbedaa.Pure
set_option linter.unusedSimpArgs false
set_option linter.unusedVariables false
set_option linter.unusedSectionVars false
open Go.RowKit Go.Proofs.YtjcfhgpaipbedaaW.PrintWords Go.Proofs.YtjcfhgpaipbedaaW.PrintLast Go.Proofs.YtjcfhgpaipbedaaW.PrintMore Go.Proofs.Ytjcfhgpaipbedaa.A Go.Proofs.Ytjcfhgpaipbedaa.St

/-! ### lengths -/
def lenE (l : List Int) : Int := if l.length > 1048576 then 81 else 0
theorem vfit (q : List Int) : Ev (fun k => vec_fit_int64.f k [q]) (lenE q) := by
  unfold vec_fit_int64.f lenE
  have e1 : wrap64 ((0 : Int) + 1) = 1 := w64 (by decide) (by decide)
  have hn : (([q].length : Nat) : Int) = 1 := rfl
  have r0 : rd_L3 [q] 0 = q := rfl
  rw [hn]
  refine Ev.step (fun k => by rw [vec_fit_int64.l0]) ?_
  rw [e1, hn, r0]
  refine ev_pos (by omega) (ev_pos (by omega) (ev_pos (by omega) ?_))
  by_cases c : q.length > 1048576
  · rw [if_pos c]
    exact ev_pos (by omega) (Ev.now _)
  rw [if_neg c]
  refine ev_neg (by omega) ?_
  refine Ev.step (fun k => by rw [vec_fit_int64.l0]) ?_
  rw [hn]
  refine ev_neg (by omega) ?_
  refine Ev.step (fun k => by rw [vec_fit_int64.l1]) ?_
  rw [e1, hn, r0]
  refine ev_pos (by omega) (ev_pos (by omega) (ev_pos (by omega) (ev_pos (by omega) (ev_pos rfl ?_))))
  refine Ev.step (fun k => by rw [vec_fit_int64.l1]) ?_
  exact ev_neg (by omega) (Ev.now _)

/-! ### scales -/
def scaleL (l : List Int) (s : Int) : List Int × Int :=
  if l.length > 1048576 then ([], 81) else if s < 0 ∨ s > 62 then ([], 20) else (l.map fun x => roundL x s.toNat, 0)
theorem map_take (f : Int → Int) (a : List Int) (i : Nat) (h : i < a.length) : (a.map f).take (i + 1) = (a.map f).take i ++ [f (a.getD i 0)] := by
  have h' : i < (a.map f).length := by rw [List.length_map]; exact h
  rw [List.take_succ_eq_append_getElem h', List.getElem_map, getE a i h]
theorem own_scale_l (l : List Int) (s : Nat) (hs : s ≤ 62) (hl : l.length ≤ 1048576) : ∀ (d i : Nat) (L : List Int), l.length - i = d → i ≤ l.length → L.length = l.length → L.take i = (l.map fun x => roundL x s).take i →
    Ev (fun k => vec_Scale.l0 k (s : Int) L l (l.length : Int) (i : Int)) (l.map fun x => roundL x s, 0)
  | d, i, L, hd, hi, hL, ht => by
    refine Ev.step (fun k => by rw [vec_Scale.l0]) ?_
    by_cases c : i < l.length
    · obtain ⟨d, rfl⟩ : ∃ e, d = e + 1 := ⟨d - 1, by omega⟩
      rw [rd_nat, w1 i (by omega), Int.toNat_natCast]
      refine ev_pos (by omega) (ev_pos (by omega) (ev_pos (by omega) (ev_is (own_round _ s hs) (ev_pos (by omega) ?_))))
      refine own_scale_l l s hs hl d (i + 1) _ (by omega) (by omega) (by rw [List.length_set]; exact hL) ?_
      rw [take_set L i _ (by omega), map_take _ _ i c, ht]
    · obtain rfl : i = l.length := by omega
      have e : L = l.map fun x => roundL x s := by
        rw [List.take_of_length_le (by omega), List.take_of_length_le (by rw [List.length_map]; omega)] at ht
        exact ht
      rw [e]
      exact ev_neg (by omega) (Ev.now _)
theorem own_scale (l : List Int) (s : Int) : Ev (fun k => vec_Scale.f k l s) (scaleL l s) := by
  unfold vec_Scale.f scaleL
  refine Ev.bind (vfit l) ?_
  unfold lenE
  by_cases c : l.length > 1048576
  · rw [if_pos c, if_pos c]
    exact ev_neg (by decide) (Ev.now _)
  rw [if_neg c, if_neg c]
  refine ev_pos rfl ?_
  by_cases c2 : s < 0 ∨ s > 62
  · rw [if_pos c2]
    exact ev_is (own_round_e 0 s c2) (ev_neg (by decide) (Ev.now _))
  rw [if_neg c2]
  have hs : ((s.toNat : Nat) : Int) = s := by omega
  have h0 := own_round 0 s.toNat (by omega)
  rw [hs] at h0
  refine ev_is h0 (ev_pos rfl (ev_pos (by omega) (ev_pos (by rw [Int.toNat_natCast]; omega) ?_)))
  have h := own_scale_l l s.toNat (by omega) (by omega) _ 0 (List.replicate ((l.length : Int)).toNat 0) rfl (Nat.zero_le _) (by rw [List.length_replicate, Int.toNat_natCast]) (by rw [List.take_zero, List.take_zero])
  rw [hs] at h
  exact h
theorem ref_scale_l (l : List Int) (s : Nat) (hs : s ≤ 62) (hl : l.length ≤ 1048576) : ∀ (d i : Nat), l.length - i = d → i ≤ l.length →
    Ev (fun k => r08_Scale.l0 k (s : Int) ((l.map fun x => roundL x s).take i) l (l.length : Int) (i : Int)) (l.map fun x => roundL x s, 0)
  | d, i, hd, hi => by
    refine Ev.step (fun k => by rw [r08_Scale.l0]) ?_
    by_cases c : i < l.length
    · obtain ⟨d, rfl⟩ : ∃ e, d = e + 1 := ⟨d - 1, by omega⟩
      have hgo := ref_scale_l l s hs hl d (i + 1) (by omega) (by omega)
      rw [map_take _ _ i c] at hgo
      rw [rd_nat, w1 i (by omega)]
      exact ev_pos (by omega) (ev_pos (by omega) (ev_pos (by omega) (Ev.bind (ref_round _ s hs) (ev_pos (by rw [List.length_take, List.length_map]; omega) hgo))))
    · obtain rfl : i = l.length := by omega
      rw [List.take_of_length_le (by rw [List.length_map]; exact Nat.le_refl _)]
      exact ev_neg (by omega) (Ev.now _)
theorem ref_scale (l : List Int) (s : Int) : Ev (fun k => r08_Scale.f k l s) (scaleL l s) := by
  unfold r08_Scale.f scaleL
  by_cases c : l.length > 1048576
  · rw [if_pos c]
    exact ev_pos (by omega) (Ev.now _)
  rw [if_neg c]
  refine ev_neg (by omega) ?_
  have bad : s < 0 ∨ s > 62 → Ev (fun k => r08_Scale.j0 k l s true) (if s < 0 ∨ s > 62 then ([], 20) else (l.map fun x => roundL x s.toNat, 0)) := by
    intro h
    rw [if_pos h]
    refine Ev.step (fun k => by rw [r08_Scale.j0]) ?_
    exact ev_pos rfl (Ev.now _)
  by_cases c1 : s < 0
  · exact ev_pos c1 (bad (Or.inl c1))
  refine ev_neg c1 ?_
  by_cases c2 : s > 62
  · rw [decide_eq_true c2]
    exact bad (Or.inr c2)
  rw [decide_eq_false c2, if_neg (by omega)]
  refine Ev.step (fun k => by rw [r08_Scale.j0]) ?_
  refine ev_neg (by decide) ?_
  have hs : ((s.toNat : Nat) : Int) = s := by omega
  have h := ref_scale_l l s.toNat (by omega) (by omega) _ 0 rfl (Nat.zero_le _)
  rw [hs, List.take_zero] at h
  exact h
theorem scaleL_len (l : List Int) (s : Int) : (scaleL l s).1.length ≤ 1048576 := by
  unfold scaleL
  split
  · exact Nat.zero_le _
  split
  · exact Nat.zero_le _
  · rw [List.length_map]; omega

/-! ### 8 bits again -/
def shrinkL (l : List Int) (s : Int) : List Int × Int := ((scaleL l s).1.map narrowL, (scaleL l s).2)
theorem scaleL_nil (l : List Int) (s : Int) (h : (scaleL l s).2 ≠ 0) : (scaleL l s).1 = [] := by
  revert h
  unfold scaleL
  split
  · intro _; rfl
  split
  · intro _; rfl
  · intro h; exact (h rfl).elim
theorem own_shrink_l (l : List Int) (hl : l.length ≤ 1048576) : ∀ (d i : Nat) (L : List Int), l.length - i = d → i ≤ l.length → L.length = l.length → L.take i = (l.map narrowL).take i →
    Ev (fun k => vec_Shrink.l0 k L l (l.length : Int) (i : Int)) (l.map narrowL, 0)
  | d, i, L, hd, hi, hL, ht => by
    refine Ev.step (fun k => by rw [vec_Shrink.l0]) ?_
    by_cases c : i < l.length
    · obtain ⟨d, rfl⟩ : ∃ e, d = e + 1 := ⟨d - 1, by omega⟩
      rw [rd_nat, w1 i (by omega), Int.toNat_natCast]
      refine ev_pos (by omega) (ev_pos (by omega) (ev_pos (by omega) (ev_is (own_narrow _) (ev_pos (by omega) ?_))))
      refine own_shrink_l l hl d (i + 1) _ (by omega) (by omega) (by rw [List.length_set]; exact hL) ?_
      rw [take_set L i _ (by omega), map_take _ _ i c, ht]
    · obtain rfl : i = l.length := by omega
      have e : L = l.map narrowL := by
        rw [List.take_of_length_le (by omega), List.take_of_length_le (by rw [List.length_map]; omega)] at ht
        exact ht
      rw [e]
      exact ev_neg (by omega) (Ev.now _)
theorem own_shrink (l : List Int) (s : Int) : Ev (fun k => vec_Shrink.f k l s) (shrinkL l s) := by
  unfold vec_Shrink.f shrinkL
  have hl := scaleL_len l s
  refine Ev.bind (own_scale l s) ?_
  by_cases c : (scaleL l s).2 = 0
  · rw [c]
    refine ev_pos rfl (ev_pos (by omega) (ev_pos (by rw [Int.toNat_natCast]; omega) ?_))
    exact own_shrink_l _ hl _ 0 _ rfl (Nat.zero_le _) (by rw [List.length_replicate, Int.toNat_natCast]) (by rw [List.take_zero, List.take_zero])
  · rw [scaleL_nil l s c]
    exact ev_neg c (Ev.now _)
theorem ref_shrink_l (l : List Int) (e : Int) (hl : l.length ≤ 1048576) : ∀ (d i : Nat), l.length - i = d → i ≤ l.length →
    Ev (fun k => r08_Shrink.l0 k e ((l.map narrowL).take i) l (l.length : Int) (i : Int)) (l.map narrowL, e)
  | d, i, hd, hi => by
    refine Ev.step (fun k => by rw [r08_Shrink.l0]) ?_
    by_cases c : i < l.length
    · obtain ⟨d, rfl⟩ : ∃ e, d = e + 1 := ⟨d - 1, by omega⟩
      have hgo := ref_shrink_l l e hl d (i + 1) (by omega) (by omega)
      rw [map_take _ _ i c] at hgo
      rw [rd_nat, w1 i (by omega)]
      exact ev_pos (by omega) (ev_pos (by omega) (ev_pos (by omega) (ev_is (ref_narrow _) (ev_pos (by rw [List.length_take, List.length_map]; omega) hgo))))
    · obtain rfl : i = l.length := by omega
      rw [List.take_of_length_le (by rw [List.length_map]; exact Nat.le_refl _)]
      exact ev_neg (by omega) (Ev.now _)
theorem ref_shrink (l : List Int) (s : Int) : Ev (fun k => r08_Shrink.f k l s) (shrinkL l s) := by
  unfold r08_Shrink.f shrinkL
  exact Ev.bind (ref_scale l s) (ref_shrink_l _ _ (scaleL_len l s) _ 0 rfl (Nat.zero_le _))
theorem narrow_i8 (y : Int) : -128 ≤ narrowL y ∧ narrowL y ≤ 127 := by
  unfold narrowL
  have e : ∀ x : Int, IntKind.i8.wrap x = (x + 128) % 256 - 128 := fun x => by
    simp [IntKind.wrap, IntKind.bits, IntKind.signed]
    try omega
  rw [e]
  split
  · omega
  · split <;> omega
theorem shrinkL_i8 (l : List Int) (s : Int) : I8 (shrinkL l s).1 := by
  intro x hx
  obtain ⟨y, _, rfl⟩ := List.mem_map.1 hx
  exact narrow_i8 y

/-! ### matrices -/
def matE (w : List Int) (c : Int) : Int := if w.length > 1048576 then 81 else if c < 1 ∨ (w.length : Int) % c ≠ 0 then 80 else 0
theorem own_mat (w : List Int) (c : Int) : vec_matrix.f w c = some (matE w c) := by
  unfold vec_matrix.f matE
  by_cases c1 : w.length > 1048576
  · rw [if_pos c1, if_pos (by omega)]
  rw [if_neg c1, if_neg (by omega)]
  by_cases c2 : c < 1
  · rw [if_pos c2, if_pos (Or.inl c2)]
  rw [if_neg c2, if_neg (by omega)]
  by_cases c3 : (w.length : Int) % c = 0
  · rw [if_pos c3, if_neg (by rintro (h | h); exact c2 h; exact h c3)]
  · rw [if_neg c3, if_pos (Or.inr c3)]
theorem ref_mat (w : List Int) (c : Int) : r08_Matrix.f w c = some (matE w c) := own_mat w c
def chunkL (w : List Int) (n j : Nat) : List Int := (w.take (j * n + n)).drop (j * n)
def timesL (w : List Int) (c : Int) (x : List Int) : List Int × Int :=
  if matE w c = 0 then if (x.length : Int) = c then ((List.range (w.length / x.length)).map fun j => dotA 0 (chunkL w x.length j) x, 0) else ([], 80) else ([], matE w c)
theorem own_times (w : List Int) (c : Int) (x : List Int) : vec_Times.f w c x = some (timesL w c x) := by
  unfold vec_Times.f timesL
  rw [own_mat]
  rfl
theorem drop_get' (l : List Int) (i : Nat) (h : i < l.length) : l.drop i = l.getD i 0 :: l.drop (i + 1) := drop_get l i h
theorem rdot_l (q y : List Int) (hl : q.length = y.length) (hs : q.length ≤ 1048576) (R : Int) : ∀ (d i : Nat) (a : Int), q.length - i = d → i ≤ q.length → dotA a (q.drop i) (y.drop i) = R → Ev (fun k => r08_Dot.l0 k q y a (q.length : Int) (i : Int)) (R, 0)
  | d, i, a, hd, hi, h => by
    refine Ev.step (fun k => by rw [r08_Dot.l0]) ?_
    by_cases c : i < q.length
    · obtain ⟨d, rfl⟩ : ∃ e, d = e + 1 := ⟨d - 1, by omega⟩
      rw [drop_get q i c, drop_get y i (by omega), dotA] at h
      rw [rd_nat, rd_nat, w1 i (by omega)]
      exact ev_pos (by omega) (ev_pos (by omega) (ev_pos (by omega) (ev_pos (by omega) (rdot_l q y hl hs R d (i + 1) _ (by omega) (by omega) h))))
    · rw [List.drop_eq_nil_of_le (by omega)] at h
      have h' : a = R := by rw [← h]; cases (y.drop i) <;> rfl
      rw [h']
      exact ev_neg (by omega) (Ev.now _)
theorem ref_dot (q y : List Int) (hl : q.length = y.length) (hs : q.length ≤ 1048576) : Ev (fun k => r08_Dot.f k q y) (dotA 0 q y, 0) := by
  unfold r08_Dot.f
  refine ev_neg (by omega) ?_
  rw [decide_eq_false (by omega)]
  refine Ev.step (fun k => by rw [r08_Dot.j0]) ?_
  exact ev_neg (by decide) (ev_pos (by omega) (rdot_l q y hl hs _ _ 0 0 rfl (Nat.zero_le _) rfl))
theorem chunk_fits (W m n j : Nat) (hm : W = m * n) (c : j < m) : j * n + n ≤ W := by
  have := Nat.mul_le_mul_right n (show j + 1 ≤ m from c)
  rw [Nat.succ_mul, ← hm] at this
  exact this
theorem le_W (W m n : Nat) (hm : W = m * n) (hn : 1 ≤ n) : m ≤ W := by
  rw [hm]
  exact Nat.le_mul_of_pos_right m hn
theorem ref_times_1 (w x : List Int) (a j : Nat) (o : List Int) (R : List Int × Int) (hp : a + x.length ≤ w.length) (hs : w.length ≤ 1048576) (ho : o.length ≤ 1048576)
    (hgo : Ev (fun k => r08_Times.l0 k w (x.length : Int) x (o ++ [dotA 0 ((w.take (a + x.length)).drop a) x]) ((a + x.length : Nat) : Int)) R) (hn : 1 ≤ x.length) : Ev (fun k => r08_Times.l0 k w (x.length : Int) x o (a : Int)) R := by
  have hc : ((w.take (a + x.length)).drop a).length = x.length := by rw [List.length_drop, List.length_take]; omega
  have hd := ref_dot ((w.take (a + x.length)).drop a) x hc (by omega)
  have e2 : wrap64 ((a : Int) + (x.length : Int)) = ((a + x.length : Nat) : Int) := by
    rw [w64 (by omega) (by omega)]; omega
  refine Ev.step (fun k => by rw [r08_Times.l0]) ?_
  rw [e2, Int.toNat_natCast, Int.toNat_natCast]
  exact ev_pos (by omega) (ev_pos (by omega) (ev_pos (by omega) (ev_pos (by omega) (Ev.bind hd (ev_pos (by omega) hgo)))))
theorem ref_times_l (w x : List Int) (m : Nat) (hm : w.length = m * x.length) (hn : 1 ≤ x.length) (hs : w.length ≤ 1048576) : ∀ (d j : Nat), m - j = d → j ≤ m →
    Ev (fun k => r08_Times.l0 k w (x.length : Int) x (((List.range j).map fun j => dotA 0 (chunkL w x.length j) x)) ((j * x.length : Nat) : Int)) ((List.range m).map fun j => dotA 0 (chunkL w x.length j) x, 0)
  | 0, j, hd, hj => by
    have e : j = m := by omega
    subst e
    refine Ev.step (fun k => by rw [r08_Times.l0]) ?_
    rw [← hm]
    exact ev_neg (Int.lt_irrefl _) (Ev.now _)
  | d + 1, j, hd, hj => by
    have c : j < m := by omega
    have hgo := ref_times_l w x m hm hn hs d (j + 1) (by omega) (by omega)
    rw [List.range_succ, List.map_append, List.map_cons, List.map_nil, Nat.succ_mul] at hgo
    have hp := chunk_fits w.length m x.length j hm c
    have hjm := le_W w.length m x.length hm hn
    have ho : ((List.range j).map fun j => dotA 0 (chunkL w x.length j) x).length ≤ 1048576 := by
      rw [List.length_map, List.length_range]
      exact Nat.le_trans (Nat.le_of_lt c) (Nat.le_trans hjm hs)
    exact ref_times_1 w x (j * x.length) j _ _ hp hs ho hgo hn
theorem ref_times (w : List Int) (c : Int) (x : List Int) : Ev (fun k => r08_Times.f k w c x) (timesL w c x) := by
  unfold r08_Times.f timesL
  refine ev_is (ref_mat w c) ?_
  by_cases h : matE w c = 0
  · rw [if_pos h]
    refine ev_pos h ?_
    by_cases h2 : (x.length : Int) = c
    · rw [if_pos h2]
      refine ev_pos h2 ?_
      have hw : w.length ≤ 1048576 ∧ 1 ≤ x.length ∧ w.length % x.length = 0 := by
        unfold matE at h
        by_cases c1 : w.length > 1048576
        · rw [if_pos c1] at h; cases h
        rw [if_neg c1] at h
        by_cases c2 : c < 1 ∨ (w.length : Int) % c ≠ 0
        · rw [if_pos c2] at h; cases h
        have c3 : (w.length : Int) % c = 0 := Decidable.byContradiction fun h => c2 (Or.inr h)
        rw [← h2, ← Int.natCast_emod] at c3
        omega
      have hm : w.length = w.length / x.length * x.length := by
        have := Nat.div_add_mod w.length x.length
        rw [Nat.mul_comm] at this
        omega
      have hgo := ref_times_l w x _ hm hw.2.1 hw.1 _ 0 rfl (Nat.zero_le _)
      rw [Nat.zero_mul] at hgo
      rw [← h2]
      exact hgo
    · rw [if_neg h2]
      exact ev_neg h2 (Ev.now _)
  · rw [if_neg h]
    exact ev_neg h (Ev.now _)
def throughL (w x : List Int) (s : Int) : List Int × Int :=
  if (timesL w (x.length : Int) x).2 = 0 then shrinkL (timesL w (x.length : Int) x).1 s else ([], (timesL w (x.length : Int) x).2)
theorem own_through (w x : List Int) (s : Int) : Ev (fun k => act_through.f k w x s) (throughL w x s) := by
  unfold act_through.f throughL
  refine ev_is (own_times w _ x) ?_
  by_cases c : (timesL w (x.length : Int) x).2 = 0
  · rw [if_pos c]
    exact ev_pos c (Ev.bind (own_shrink _ s) (Ev.now _))
  · rw [if_neg c]
    exact ev_neg c (Ev.now _)
theorem ref_through (w x : List Int) (s : Int) : Ev (fun k => r12_shrunk.f k w x s) (throughL w x s) := by
  unfold r12_shrunk.f throughL
  refine Ev.bind (ref_times w _ x) ?_
  by_cases c : (timesL w (x.length : Int) x).2 = 0
  · rw [if_pos c]
    exact ev_pos c (Ev.bind (ref_shrink _ s) (Ev.now _))
  · rw [if_neg c]
    exact ev_neg c (Ev.now _)
theorem throughL_i8 (w x : List Int) (s : Int) : I8 (throughL w x s).1 := by
  unfold throughL
  split
  · exact shrinkL_i8 _ s
  · intro y hy; exact (List.not_mem_nil hy).elim
def middleL (g u d : List Int) (gs us ds : Int) (bend h : List Int) : List Int × Int :=
  if (throughL g h gs).2 ≠ 0 then ([], (throughL g h gs).2)
  else if (throughL u h us).2 ≠ 0 then ([], (throughL u h us).2)
  else if (gateL bend (throughL g h gs).1 (throughL u h us).1).2 ≠ 0 then ([], (gateL bend (throughL g h gs).1 (throughL u h us).1).2)
  else if (timesL d ((gateL bend (throughL g h gs).1 (throughL u h us).1).1.length : Int) (gateL bend (throughL g h gs).1 (throughL u h us).1).1).2 ≠ 0 then ([], (timesL d ((gateL bend (throughL g h gs).1 (throughL u h us).1).1.length : Int) (gateL bend (throughL g h gs).1 (throughL u h us).1).1).2)
  else scaleL (timesL d ((gateL bend (throughL g h gs).1 (throughL u h us).1).1.length : Int) (gateL bend (throughL g h gs).1 (throughL u h us).1).1).1 ds
theorem own_middle (g u d : List Int) (gs us ds : Int) (bend h : List Int) : Ev (fun k => act_Middle.f k g u d gs us ds bend h) (middleL g u d gs us ds bend h) := by
  unfold act_Middle.f middleL
  refine Ev.bind (own_through g h gs) ?_
  by_cases c1 : (throughL g h gs).2 = 0
  · rw [if_neg (by omega)]
    refine ev_pos c1 (Ev.bind (own_through u h us) ?_)
    by_cases c2 : (throughL u h us).2 = 0
    · rw [if_neg (by omega)]
      refine ev_pos c2 (Ev.bind (own_gate bend _ _) ?_)
      by_cases c3 : (gateL bend (throughL g h gs).1 (throughL u h us).1).2 = 0
      · rw [if_neg (by omega)]
        refine ev_pos c3 (ev_is (own_times d _ _) ?_)
        by_cases c4 : (timesL d ((gateL bend (throughL g h gs).1 (throughL u h us).1).1.length : Int) (gateL bend (throughL g h gs).1 (throughL u h us).1).1).2 = 0
        · rw [if_neg (by omega)]
          exact ev_pos c4 (Ev.bind (own_scale _ ds) (Ev.now _))
        · rw [if_pos c4]
          exact ev_neg c4 (Ev.now _)
      · rw [if_pos c3]
        exact ev_neg c3 (Ev.now _)
    · rw [if_pos c2]
      exact ev_neg c2 (Ev.now _)
  · rw [if_pos c1]
    exact ev_neg c1 (Ev.now _)
theorem ref_middle (g u d : List Int) (gs us ds : Int) (bend h : List Int) : Ev (fun k => r12_Run.f k g u d gs us ds bend h) (middleL g u d gs us ds bend h) := by
  unfold r12_Run.f middleL
  refine Ev.bind (ref_through g h gs) ?_
  by_cases c1 : (throughL g h gs).2 = 0
  · rw [if_neg (by omega)]
    refine ev_pos c1 (Ev.bind (ref_through u h us) ?_)
    by_cases c2 : (throughL u h us).2 = 0
    · rw [if_neg (by omega)]
      refine ev_pos c2 (Ev.bind (ref_gate bend _ _ (throughL_i8 g h gs)) ?_)
      by_cases c3 : (gateL bend (throughL g h gs).1 (throughL u h us).1).2 = 0
      · rw [if_neg (by omega)]
        refine ev_pos c3 (Ev.bind (ref_times d _ _) ?_)
        by_cases c4 : (timesL d ((gateL bend (throughL g h gs).1 (throughL u h us).1).1.length : Int) (gateL bend (throughL g h gs).1 (throughL u h us).1).1).2 = 0
        · rw [if_neg (by omega)]
          exact ev_pos c4 (Ev.bind (ref_scale _ ds) (Ev.now _))
        · rw [if_pos c4]
          exact ev_neg c4 (Ev.now _)
      · rw [if_pos c3]
        exact ev_neg c3 (Ev.now _)
    · rw [if_pos c2]
      exact ev_neg c2 (Ev.now _)
  · rw [if_pos c1]
    exact ev_neg c1 (Ev.now _)
theorem middleL_len (g u d : List Int) (gs us ds : Int) (bend h : List Int) : (middleL g u d gs us ds bend h).1.length ≤ 1048576 := by
  unfold middleL
  split
  · exact Nat.zero_le _
  split
  · exact Nat.zero_le _
  split
  · exact Nat.zero_le _
  split
  · exact Nat.zero_le _
  · exact scaleL_len _ ds
theorem same64_l (l : List Int) (hl : l.length < 4611686018427387904) : ∀ (d i : Nat), l.length - i = d → i ≤ l.length → Ev (fun k => w12_same_int64.l0 k l l (l.length : Int) (i : Int)) true
  | d, i, hd, hi => by
    refine Ev.step (fun k => by rw [w12_same_int64.l0]) ?_
    by_cases c : i < l.length
    · obtain ⟨d, rfl⟩ : ∃ e, d = e + 1 := ⟨d - 1, by omega⟩
      rw [w1 i (by omega)]
      exact ev_pos (by omega) (ev_pos (by omega) (ev_pos (by omega) (ev_pos (by omega) (ev_pos rfl (same64_l l hl d (i + 1) (by omega) (by omega))))))
    · exact ev_neg (by omega) (Ev.now _)
theorem same64 (l : List Int) (hl : l.length < 4611686018427387904) : Ev (fun k => w12_same_int64.f k l l) true := by
  unfold w12_same_int64.f
  exact ev_pos rfl (same64_l l hl _ 0 rfl (Nat.zero_le _))
end Go.Proofs.Ytjcfhgpaipbedaa.Pure
