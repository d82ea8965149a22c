/- DistPenalties: the scores after a penalty are the document's; what is handed in stays; a score that was not said stays. -/
import Derived.Test.YthmckhfjaleomaaStmtDistPenalties
import Derived.Test.YthmckhfjaleomaaMPen
namespace Go.Proofs.Ythmckhfjaleomaa.Pure
set_option linter.unusedVariables false
set_option linter.unusedSectionVars false
open Go.RowKit Go.Proofs.YthmckhfjaleomaaW.PrintWords Go.Proofs.YthmckhfjaleomaaW.PrintLast Go.Proofs.YthmckhfjaleomaaW.PrintMore Go.Proofs.Ythmckhfjaleomaa.T Go.Proofs.Ythmckhfjaleomaa.St
def clampL (x : Int) : Int := if x < -1073741824 then -1073741824 else if x > 1073741824 then 1073741824 else x
theorem own_clamp (x : Int) : fixed_Clamp.f x (-1073741824) 1073741824 = some (clampL x) := by
  unfold fixed_Clamp.f clampL
  split
  · rfl
  · split <;> rfl
theorem ref_clamp (x : Int) : r02_Clamp.f x (-1073741824) 1073741824 = some (clampL x) := by
  unfold r02_Clamp.f clampL
  split
  · rfl
  · split <;> rfl
theorem wrongS_iff (x : Int) : wrongS x = false ↔ -1073741824 ≤ x ∧ x ≤ 1073741824 := by
  unfold wrongS
  rw [Bool.or_eq_false_iff, decide_eq_false_iff_not, decide_eq_false_iff_not]
  omega
theorem ref_score (x : Int) : r22_score.f x = some (!wrongS x) := by
  unfold r22_score.f
  by_cases c : x ≥ -1073741824
  · rw [if_pos c]
    congr 1
    cases e : wrongS x with
    | false => exact decide_eq_true ((wrongS_iff x).1 e).2
    | true =>
      refine decide_eq_false fun h => ?_
      rw [(wrongS_iff x).2 ⟨c, h⟩] at e
      cases e
  · rw [if_neg c]
    congr 1
    cases e : wrongS x with
    | false => exact (c ((wrongS_iff x).1 e).1).elim
    | true => rfl
theorem all_l (l : List Int) (hl : l.length < 4611686018427387904) : ∀ (d i : Nat), l.length - i = d → i ≤ l.length → Ev (fun k => r22_all.l0 k l l (l.length : Int) (i : Int)) (decide (1 ≤ l.length ∧ l.length ≤ 512) && !(l.drop i).any wrongS)
  | d, i, hd, hi => by
    refine Ev.step (fun k => by rw [r22_all.l0]) ?_
    by_cases c : i < l.length
    · obtain ⟨d, rfl⟩ : ∃ e, d = e + 1 := ⟨d - 1, by omega⟩
      rw [drop_get l i c, List.any_cons, rd_nat, w1 i (by omega)]
      refine ev_pos (by omega) (ev_pos (by omega) (ev_pos (by omega) (ev_is (ref_score _) ?_)))
      cases e : wrongS (l.getD i 0) with
      | false => exact ev_pos rfl (all_l l hl d (i + 1) (by omega) (by omega))
      | true =>
        rw [Bool.true_or, Bool.not_true, Bool.and_false]
        exact ev_neg (by decide) (Ev.now _)
    · obtain rfl : i = l.length := by omega
      rw [List.drop_length, List.any_nil, Bool.not_false, Bool.and_true]
      refine ev_neg (by omega) ?_
      by_cases c1 : (l.length : Int) ≥ 1
      · refine ev_pos c1 ?_
        rw [show decide (1 ≤ l.length ∧ l.length ≤ 512) = decide ((l.length : Int) ≤ 512) from by rw [decide_eq_decide]; omega]
        exact Ev.now _
      · rw [decide_eq_false (show ¬ (1 ≤ l.length ∧ l.length ≤ 512) by omega)]
        exact ev_neg c1 (Ev.now _)
theorem all_ev (l : List Int) (hl : l.length < 4611686018427387904) : Ev (fun k => r22_all.f k l) (scoredL l) := all_l l hl _ 0 rfl (Nat.zero_le _)
/-- how often each was said. -/
def countL (v : List Int) : List Int → List Int
  | [] => v
  | t :: r => countL (v.set t.toNat (v.getD t.toNat 0 + 1)) r
/-- the scores after a penalty. -/
def penL (o e : Int) : List Int → List Int → List Int
  | x :: l, c :: v => (if c > 0 then clampL (x - o - c * e) else x) :: penL o e l v
  | _, _ => []
theorem count_len : ∀ (s v : List Int), (countL v s).length = v.length
  | [], v => rfl
  | t :: r, v => by rw [countL, count_len r, List.length_set]
theorem count_le : ∀ (s v : List Int) (N : Int), (∀ x ∈ v, 0 ≤ x ∧ x ≤ N) → 0 ≤ N → ∀ x ∈ countL v s, 0 ≤ x ∧ x ≤ N + s.length
  | [], v, N, h, h0, x, hx => by have := h x hx; simp only [List.length_nil]; omega
  | t :: r, v, N, h, h0, x, hx => by
    have := count_le r _ (N + 1) (fun y hy => ?_) (by omega) x hx
    · rw [List.length_cons]; omega
    · rcases List.mem_or_eq_of_mem_set hy with h' | h'
      · have := h y h'; omega
      · by_cases c : t.toNat < v.length
        · have := h _ (getD_mem v t.toNat c); omega
        · have : v.getD t.toNat 0 = 0 := by rw [List.getD_eq_getElem?_getD, List.getElem?_eq_none (by omega)]; rfl
          omega
theorem getD_set' (xs : List Int) (n j : Nat) (v : Int) (hn : n < xs.length) : (xs.set n v).getD j 0 = if n = j then v else xs.getD j 0 := by
  simp only [List.getD_eq_getElem?_getD, List.getElem?_set]
  by_cases c : n = j
  · rw [if_pos c, if_pos c, if_pos (by omega)]; rfl
  · rw [if_neg c, if_neg c]
theorem count_zero : ∀ (s v : List Int), (∀ t ∈ s, 0 ≤ t ∧ t < (v.length : Int)) → ∀ j, j < v.length → (j : Int) ∉ s → (countL v s).getD j 0 = v.getD j 0
  | [], v, h, j, hj, hn => rfl
  | t :: r, v, h, j, hj, hn => by
    have ht := h t List.mem_cons_self
    rw [countL, count_zero r _ (fun u hu => by rw [List.length_set]; exact h u (List.mem_cons_of_mem _ hu)) j (by rw [List.length_set]; exact hj) (fun hm => hn (List.mem_cons_of_mem _ hm)), getD_set' _ _ _ _ (by omega), if_neg]
    intro he
    apply hn
    rw [show (j : Int) = t by omega]
    exact List.mem_cons_self
theorem pen_len (o e : Int) : ∀ (l v : List Int), v.length = l.length → (penL o e l v).length = l.length
  | [], v, h => by cases v <;> rfl
  | x :: l, [], h => by cases h
  | x :: l, c :: v, h => by rw [penL, List.length_cons, List.length_cons, pen_len o e l v (by simpa using h)]
theorem pen_get (o e : Int) : ∀ (l v : List Int), v.length = l.length → ∀ j, j < l.length → (penL o e l v).getD j 0 = if v.getD j 0 > 0 then clampL (l.getD j 0 - o - v.getD j 0 * e) else l.getD j 0
  | [], v, h, j, hj => by cases hj
  | x :: l, [], h, j, hj => by cases h
  | x :: l, c :: v, h, 0, hj => rfl
  | x :: l, c :: v, h, j + 1, hj => pen_get o e l v (by simpa using h) j (by simpa using hj)
theorem pen_none : ∀ (l v : List Int), v.length = l.length → (∀ x ∈ l, wrongS x = false) → penL 0 0 l v = l
  | [], v, h, hx => by cases v <;> rfl
  | x :: l, [], h, hx => by cases h
  | x :: l, c :: v, h, hx => by
    have := (wrongS_iff x).1 (hx x List.mem_cons_self)
    rw [penL, pen_none l v (by simpa using h) (fun y hy => hx y (List.mem_cons_of_mem _ hy)), Int.sub_zero, Int.mul_zero, Int.sub_zero]
    have hc : clampL x = x := by
      unfold clampL
      rw [if_neg (by omega), if_neg (by omega)]
    rw [hc, ite_self]
def lastsL (said : List Int) (w : Int) : List Int := if w > 0 ∧ w < (said.length : Int) then said.drop (said.length - w.toNat) else said
def offT (n : Nat) (x : Int) : Bool := offL n x
def penaliseL (l said : List Int) (w o e : Int) : List Int × Int :=
  if scoredL l = false then ([], 221) else
  if ¬ (0 ≤ w ∧ w ≤ 65536 ∧ -1048576 ≤ o ∧ o ≤ 1048576 ∧ -1048576 ≤ e ∧ e ≤ 1048576) then ([], 220) else
  if said.length > 65536 then ([], 1) else
  if said.any (offL l.length) = true then ([], 1) else
  (penL o e l (countL (List.replicate l.length 0) (lastsL said w)), 0)
theorem offL_iff (n : Nat) (x : Int) : offL n x = false ↔ 0 ≤ x ∧ x < (n : Int) := by
  unfold offL
  rw [Bool.not_eq_false', Bool.and_eq_true, decide_eq_true_eq, decide_eq_true_eq]
  omega
theorem mul_range {c e : Int} (h1 : 0 ≤ c) (h2 : c ≤ 65536) (h3 : -1048576 ≤ e) (h4 : e ≤ 1048576) : -68719476736 ≤ c * e ∧ c * e ≤ 68719476736 := by
  constructor
  · have := Int.mul_le_mul_of_nonneg_left h3 h1
    omega
  · have := Int.mul_le_mul_of_nonneg_left h4 h1
    omega
section
variable (l : List Int) (hl : l.length ≤ 512) (hx : ∀ x ∈ l, wrongS x = false) (w o e : Int) (hw : 0 ≤ w ∧ w ≤ 65536) (ho : -1048576 ≤ o ∧ o ≤ 1048576) (he : -1048576 ≤ e ∧ e ≤ 1048576)
include hl hx hw ho he
theorem own_pen_l1 (v : List Int) (hv : v.length = l.length) (hvb : ∀ x ∈ v, 0 ≤ x ∧ x ≤ 65536) : ∀ (d i : Nat) (x : List Int), l.length - i = d → i ≤ l.length → x = (penL o e l v).take i ++ l.drop i → Ev (fun k => dist_Penalise.l1 k x v (v.length : Int) (i : Int) w o e) (penL o e l v, 0)
  | d, i, x, hd, hi, hxx => by
    have hpl := pen_len o e l v hv
    have hxl : x.length = l.length := by rw [hxx, List.length_append, List.length_take, List.length_drop, hpl]; omega
    refine Ev.step (fun k => by rw [dist_Penalise.l1]) ?_
    by_cases c : i < l.length
    · obtain ⟨d, rfl⟩ : ∃ e, d = e + 1 := ⟨d - 1, by omega⟩
      have hxi : x.getD i 0 = l.getD i 0 := by
        rw [hxx, List.getD_eq_getElem?_getD, List.getElem?_append_right (by rw [List.length_take]; omega), List.length_take, List.getElem?_drop, List.getD_eq_getElem?_getD]
        congr 2
        omega
      have hr := pen_get o e l v hv i c
      have hlx := (wrongS_iff _).1 (hx _ (getD_mem l i c))
      have hvx := hvb _ (getD_mem v i (by omega))
      have hm := mul_range hvx.1 hvx.2 he.1 he.2
      have hnext : (penL o e l v).take (i + 1) ++ l.drop (i + 1) = x.set i ((penL o e l v).getD i 0) := by
        rw [hxx, List.set_append_right _ _ (by rw [List.length_take]; omega), List.length_take, Nat.min_eq_left (by omega), Nat.sub_self, drop_get l i c, List.set_cons_zero, List.take_succ_eq_append_getElem (by omega), List.append_assoc, List.getD_eq_getElem?_getD, List.getElem?_eq_getElem (by omega)]
        rfl
      have hgo := own_pen_l1 v hv hvb d (i + 1) _ (by omega) (by omega) hnext.symm
      rw [rd_nat, w1 i (by omega)]
      refine ev_pos (by omega) (ev_pos (by omega) (ev_pos (by omega) ?_))
      by_cases cv : v.getD i 0 > 0
      · rw [if_pos cv] at hr
        refine ev_pos cv (ev_pos (by omega) ?_)
        rw [rd_nat, hxi, w64 (x := l.getD i 0 - o) (by omega) (by omega), w64 (x := v.getD i 0 * e) (by omega) (by omega), w64 (by omega) (by omega)]
        refine ev_is (own_clamp _) ?_
        rw [← hr]
        exact hgo
      · rw [if_neg cv] at hr
        refine ev_neg cv ?_
        have hsame : x.set i ((penL o e l v).getD i 0) = x := by
          rw [hr, ← hxi, List.getD_eq_getElem?_getD, List.getElem?_eq_getElem (by omega)]
          exact List.set_getElem_self (by omega)
        rw [hsame] at hgo
        exact hgo
    · obtain rfl : i = l.length := by omega
      refine ev_neg (by omega) ?_
      rw [hxx, List.drop_length, List.append_nil, List.take_of_length_le (by omega)]
      exact Ev.now _
theorem own_pen_l0 (s : List Int) (hs : ∀ t ∈ s, 0 ≤ t ∧ t < (l.length : Int)) (hsl : s.length ≤ 65536) (V : List Int) (hV : V = countL (List.replicate l.length 0) s) : ∀ (d i : Nat) (v : List Int), s.length - i = d → i ≤ s.length → v.length = l.length → countL v (s.drop i) = V → (∀ x ∈ v, 0 ≤ x ∧ x ≤ (i : Int)) → Ev (fun k => dist_Penalise.l0 k v s (s.length : Int) (i : Int) l w o e) (penL o e l V, 0)
  | d, i, v, hd, hi, hv, hc, hb => by
    refine Ev.step (fun k => by rw [dist_Penalise.l0]) ?_
    by_cases c : i < s.length
    · obtain ⟨d, rfl⟩ : ∃ e, d = e + 1 := ⟨d - 1, by omega⟩
      have hst := hs _ (getD_mem s i c)
      rw [drop_get s i c, countL] at hc
      rw [rd_nat, w1 i (by omega)]
      have hrd : rd v (s.getD i 0) = v.getD (s.getD i 0).toNat 0 := rfl
      have hvb := hb _ (getD_mem v (s.getD i 0).toNat (by omega))
      rw [hrd, w64 (by omega) (by omega)]
      refine ev_pos (by omega) (ev_pos (by omega) (ev_pos (by omega) (ev_pos (by omega) (ev_pos (by omega) ?_))))
      refine own_pen_l0 s hs hsl V hV d (i + 1) _ (by omega) (by omega) (by rw [List.length_set]; exact hv) hc (fun x hx' => ?_)
      rcases List.mem_or_eq_of_mem_set hx' with h' | h'
      · have := hb x h'; omega
      · omega
    · obtain rfl : i = s.length := by omega
      rw [List.drop_length] at hc
      have hvV : v = V := hc
      subst hvV
      refine ev_neg (by omega) (ev_is (show slices_Clone_int64_int64.f l = some l by unfold slices_Clone_int64_int64.f; rw [if_pos (by omega)]) ?_)
      exact own_pen_l1 l hl hx w o e hw ho he v hv (fun x h => by have := hb x h; omega) _ 0 l rfl (Nat.zero_le _) rfl
theorem own_pen_j2 (s : List Int) (hs : ∀ t ∈ s, 0 ≤ t ∧ t < (l.length : Int)) (hsl : s.length ≤ 65536) : Ev (fun k => dist_Penalise.j2 k s l w o e) (penL o e l (countL (List.replicate l.length 0) s), 0) := by
  refine Ev.step (fun k => by rw [dist_Penalise.j2]) (ev_pos (by omega) (ev_pos (by omega) ?_))
  rw [Int.toNat_natCast]
  exact own_pen_l0 l hl hx w o e hw ho he s hs hsl _ rfl _ 0 _ rfl (Nat.zero_le _) List.length_replicate rfl (fun x h => by rw [List.eq_of_mem_replicate h]; omega)
theorem own_pen_j0 (said : List Int) : Ev (fun k => dist_Penalise.j0 k said false l w o e) (if said.length > 65536 then ([], 1) else if said.any (offL l.length) = true then ([], 1) else (penL o e l (countL (List.replicate l.length 0) (lastsL said w)), 0)) := by
  refine Ev.step (fun k => by rw [dist_Penalise.j0]) (ev_neg (by decide) ?_)
  by_cases c : said.length > 65536
  · rw [if_pos c]
    exact ev_pos (by omega) (Ev.now _)
  rw [if_neg c]
  refine ev_neg (by omega) (ev_is (show slices_ContainsFunc_int_int.f said l = some _ by unfold slices_ContainsFunc_int_int.f; rw [if_pos (by omega)]) ?_)
  by_cases c2 : said.any (offL l.length) = true
  · rw [if_pos c2]
    exact ev_pos c2 (Ev.now _)
  rw [if_neg c2]
  refine ev_neg c2 ?_
  have hs : ∀ t ∈ said, 0 ≤ t ∧ t < (l.length : Int) := by
    intro t ht
    refine (offL_iff l.length t).1 ?_
    cases e : offL l.length t with
    | false => rfl
    | true => exact (c2 (List.any_eq_true.2 ⟨t, ht, e⟩)).elim
  by_cases c3 : w > 0
  · refine ev_pos c3 (Ev.step (fun k => by rw [dist_Penalise.j1]) ?_)
    by_cases c4 : w < (said.length : Int)
    · rw [decide_eq_true c4, w64 (by omega) (by omega), show ((said.length : Int) - w).toNat = said.length - w.toNat by omega]
      refine ev_pos rfl (ev_pos (by omega) (ev_pos (by omega) ?_))
      unfold lastsL
      rw [if_pos ⟨c3, c4⟩]
      exact own_pen_j2 l hl hx w o e hw ho he _ (fun t ht => hs t (List.mem_of_mem_drop ht)) (by rw [List.length_drop]; omega)
    · rw [decide_eq_false c4]
      refine ev_neg (by decide) ?_
      unfold lastsL
      rw [if_neg (fun h => c4 h.2)]
      exact own_pen_j2 l hl hx w o e hw ho he said hs (by omega)
  · refine ev_neg c3 (Ev.step (fun k => by rw [dist_Penalise.j1]) (ev_neg (by decide) ?_))
    unfold lastsL
    rw [if_neg (fun h => c3 h.1)]
    exact own_pen_j2 l hl hx w o e hw ho he said hs (by omega)
theorem ref_pen_l1 (v : List Int) (hv : v.length = l.length) (hvb : ∀ x ∈ v, 0 ≤ x ∧ x ≤ 65536) : ∀ (d i : Nat), l.length - i = d → i ≤ l.length → Ev (fun k => r22_Penalise.l1 k v ((penL o e l v).take i) l (l.length : Int) (i : Int) w o e) (penL o e l v, 0)
  | d, i, hd, hi => by
    have hpl := pen_len o e l v hv
    refine Ev.step (fun k => by rw [r22_Penalise.l1]) ?_
    by_cases c : i < l.length
    · obtain ⟨d, rfl⟩ : ∃ e, d = e + 1 := ⟨d - 1, by omega⟩
      have hr := pen_get o e l v hv i c
      have hlx := (wrongS_iff _).1 (hx _ (getD_mem l i c))
      have hvx := hvb _ (getD_mem v i (by omega))
      have hm := mul_range hvx.1 hvx.2 he.1 he.2
      have hnext : (penL o e l v).take (i + 1) = (penL o e l v).take i ++ [(penL o e l v).getD i 0] := by
        rw [List.take_succ_eq_append_getElem (by omega), List.getD_eq_getElem?_getD, List.getElem?_eq_getElem (by omega)]
        rfl
      have hgo := ref_pen_l1 v hv hvb d (i + 1) (by omega) (by omega)
      rw [hnext] at hgo
      rw [rd_nat, rd_nat, w1 i (by omega)]
      refine ev_pos (by omega) (ev_pos (by omega) (ev_pos (by omega) (ev_pos (by omega) ?_)))
      by_cases cv : v.getD i 0 > 0
      · rw [if_pos cv] at hr
        refine ev_pos cv ?_
        rw [w64 (x := v.getD i 0 * e) (by omega) (by omega), w64 (x := o + v.getD i 0 * e) (by omega) (by omega), w64 (by omega) (by omega)]
        refine ev_is (ref_clamp _) (ev_pos (by rw [List.length_take]; omega) ?_)
        rw [show l.getD i 0 - (o + v.getD i 0 * e) = l.getD i 0 - o - v.getD i 0 * e by omega, ← hr]
        exact hgo
      · rw [if_neg cv] at hr
        refine ev_neg cv (ev_is (ref_clamp _) (ev_pos (by rw [List.length_take]; omega) ?_))
        have hcl : clampL (l.getD i 0) = l.getD i 0 := by
          unfold clampL
          rw [if_neg (by omega), if_neg (by omega)]
        rw [hcl, ← hr]
        exact hgo
    · obtain rfl : i = l.length := by omega
      rw [List.take_of_length_le (by omega)]
      exact ev_neg (by omega) (Ev.now _)
/-- what the document counts: of those before the window none. -/
theorem ref_pen_l0 (said : List Int) (hsl : said.length ≤ 65536) (R : List Int × Int) (hR : R = if said.any (offL l.length) = true then ([], 1) else (penL o e l (countL (List.replicate l.length 0) (lastsL said w)), 0)) : ∀ (d i : Nat) (v : List Int), said.length - i = d → i ≤ said.length → v.length = l.length → (∀ j, j < i → offL l.length (said.getD j 0) = false) →
    countL v (said.drop (if w = 0 ∨ w ≥ (said.length : Int) then i else max i (said.length - w.toNat))) = countL (List.replicate l.length 0) (lastsL said w) → (∀ x ∈ v, 0 ≤ x ∧ x ≤ (i : Int)) →
    Ev (fun k => r22_Penalise.l0 k l said v said (said.length : Int) (i : Int) w o e) R
  | d, i, v, hd, hi, hv, hn, hc, hb => by
    refine Ev.step (fun k => by rw [r22_Penalise.l0]) ?_
    by_cases c : i < said.length
    · obtain ⟨d, rfl⟩ : ∃ e, d = e + 1 := ⟨d - 1, by omega⟩
      rw [rd_nat]
      refine ev_pos (by omega) (ev_pos (by omega) (ev_pos (by omega) ?_))
      by_cases co : offL l.length (said.getD i 0) = true
      · have hany : said.any (offL l.length) = true := List.any_eq_true.2 ⟨_, getD_mem said i c, co⟩
        rw [if_pos hany] at hR
        have hstop : Ev (fun k => r22_Penalise.j2 k l said v (i : Int) (said.getD i 0) said (said.length : Int) (i : Int) true w o e) R := by
          rw [hR]
          exact Ev.step (fun k => by rw [r22_Penalise.j2]) (ev_pos rfl (Ev.now _))
        by_cases c1 : said.getD i 0 < 0
        · exact ev_pos c1 hstop
        · refine ev_neg c1 ?_
          have c2 : said.getD i 0 ≥ (l.length : Int) := by
            refine Decidable.byContradiction fun h => ?_
            rw [(offL_iff _ _).2 ⟨by omega, by omega⟩] at co
            cases co
          rw [decide_eq_true c2]
          exact hstop
      · have co' : offL l.length (said.getD i 0) = false := by cases h : offL l.length (said.getD i 0) with
          | false => rfl
          | true => exact (co h).elim
        have hin := (offL_iff _ _).1 co'
        have hn' : ∀ j, j < i + 1 → offL l.length (said.getD j 0) = false := by
          intro j hj
          by_cases e : j = i
          · rw [e]; exact co'
          · exact hn j (by omega)
        refine ev_neg (by omega) ?_
        rw [decide_eq_false (by omega)]
        refine Ev.step (fun k => by rw [r22_Penalise.j2]) (ev_neg (by decide) ?_)
        have hrd : rd v (said.getD i 0) = v.getD (said.getD i 0).toNat 0 := rfl
        have hvb := hb _ (getD_mem v (said.getD i 0).toNat (by omega))
        have hb' : ∀ x ∈ v.set (said.getD i 0).toNat (v.getD (said.getD i 0).toNat 0 + 1), 0 ≤ x ∧ x ≤ ((i + 1 : Nat) : Int) := by
          intro x hx'
          rcases List.mem_or_eq_of_mem_set hx' with h' | h'
          · have := hb x h'; omega
          · omega
        rw [hrd, w1 i (by omega), w64 (x := (said.length : Int) - w) (by omega) (by omega), w64 (x := v.getD (said.getD i 0).toNat 0 + 1) (by omega) (by omega)]
        have take : countL (v.set (said.getD i 0).toNat (v.getD (said.getD i 0).toNat 0 + 1)) (said.drop (if w = 0 ∨ w ≥ (said.length : Int) then i + 1 else max (i + 1) (said.length - w.toNat))) = countL (List.replicate l.length 0) (lastsL said w) → Ev (fun k => r22_Penalise.l0 k l said (v.set (said.getD i 0).toNat (v.getD (said.getD i 0).toNat 0 + 1)) said (said.length : Int) ((i + 1 : Nat) : Int) w o e) R := fun hc' =>
          ref_pen_l0 said hsl R hR d (i + 1) _ (by omega) (by omega) (by rw [List.length_set]; exact hv) hn' hc' hb'
        by_cases c0 : w = 0
        · refine ev_pos c0 (ev_pos (by omega) (ev_pos (by omega) (take ?_)))
          rw [if_pos (Or.inl c0)] at hc ⊢
          rw [drop_get said i c, countL] at hc
          exact hc
        refine ev_neg c0 ?_
        by_cases c1 : (i : Int) ≥ (said.length : Int) - w
        · refine ev_pos c1 (ev_pos (by omega) (ev_pos (by omega) (take ?_)))
          by_cases c2 : w ≥ (said.length : Int)
          · rw [if_pos (Or.inr c2)] at hc ⊢
            rw [drop_get said i c, countL] at hc
            exact hc
          · rw [if_neg (by omega), show max i (said.length - w.toNat) = i by omega] at hc
            rw [if_neg (by omega), show max (i + 1) (said.length - w.toNat) = i + 1 by omega]
            rw [drop_get said i c, countL] at hc
            exact hc
        · refine ev_neg c1 (ref_pen_l0 said hsl R hR d (i + 1) v (by omega) (by omega) hv hn' ?_ (fun x h => by have := hb x h; omega))
          rw [if_neg (by omega), show max i (said.length - w.toNat) = said.length - w.toNat by omega] at hc
          rw [if_neg (by omega), show max (i + 1) (said.length - w.toNat) = said.length - w.toNat by omega]
          exact hc
    · obtain rfl : i = said.length := by omega
      have hany : ¬ said.any (offL l.length) = true := by
        intro h
        obtain ⟨t, ht, h'⟩ := List.any_eq_true.1 h
        obtain ⟨j, hj, rfl⟩ := List.getElem_of_mem ht
        have := hn j hj
        rw [List.getD_eq_getElem?_getD, List.getElem?_eq_getElem hj] at this
        rw [show (some said[j]).getD 0 = said[j] from rfl] at this
        rw [this] at h'
        cases h'
      rw [if_neg hany] at hR
      have hdr : said.drop (if w = 0 ∨ w ≥ (said.length : Int) then said.length else max said.length (said.length - w.toNat)) = [] := by
        apply List.drop_eq_nil_of_le
        split <;> omega
      rw [hdr] at hc
      have hvV : v = countL (List.replicate l.length 0) (lastsL said w) := hc
      rw [hR, ← hvV]
      exact ev_neg (by omega) (ref_pen_l1 l hl hx w o e hw ho he v hv (fun x h => by have := hb x h; omega) _ 0 rfl (Nat.zero_le _))
theorem ref_pen_j0 (said : List Int) : Ev (fun k => r22_Penalise.j0 k l said false w o e) (if said.length > 65536 then ([], 1) else if said.any (offL l.length) = true then ([], 1) else (penL o e l (countL (List.replicate l.length 0) (lastsL said w)), 0)) := by
  refine Ev.step (fun k => by rw [r22_Penalise.j0]) (ev_neg (by decide) ?_)
  by_cases c : said.length > 65536
  · rw [if_pos c]
    exact ev_pos (by omega) (Ev.now _)
  rw [if_neg c, Int.toNat_natCast]
  refine ev_neg (by omega) (ev_pos (by omega) (ev_pos (by omega) (ref_pen_l0 l hl hx w o e hw ho he said (by omega) _ rfl _ 0 _ rfl (Nat.zero_le _) List.length_replicate (fun j h => by omega) ?_ (fun x h => by rw [List.eq_of_mem_replicate h]; omega))))
  unfold lastsL
  by_cases c1 : w = 0 ∨ w ≥ (said.length : Int)
  · rw [if_pos c1, if_neg (by omega)]
    rfl
  · rw [if_neg c1, if_pos (by omega), Nat.zero_max]
end
theorem scored_ok {l : List Int} (h : scoredL l = true) : l.length ≤ 512 ∧ ∀ x ∈ l, wrongS x = false := by
  unfold scoredL at h
  rw [Bool.and_eq_true, decide_eq_true_eq, Bool.not_eq_true'] at h
  refine ⟨h.1.2, fun x hx => ?_⟩
  have := List.any_eq_false.1 h.2 x hx
  cases e : wrongS x with
  | false => rfl
  | true => exact (this e).elim
theorem bad_own (l said : List Int) (w o e : Int) : Ev (fun k => dist_Penalise.j0 k said true l w o e) ([], 220) := Ev.step (fun k => by rw [dist_Penalise.j0]) (ev_pos rfl (Ev.now _))
theorem bad_ref (l said : List Int) (w o e : Int) : Ev (fun k => r22_Penalise.j0 k l said true w o e) ([], 220) := Ev.step (fun k => by rw [r22_Penalise.j0]) (ev_pos rfl (Ev.now _))
theorem between_is (a b c : Int) : dist_between.f a b c = some (decide (a ≥ b ∧ a ≤ c)) := by
  unfold dist_between.f
  by_cases h : a ≥ b
  · rw [if_pos h]; congr 1; rw [decide_eq_decide]; omega
  · rw [if_neg h, decide_eq_false (fun hh => h hh.1)]
theorem pen1_is (a : Int) : dist_Penalise_1.f a = some (decide (-1048576 ≤ a ∧ a ≤ 1048576)) := by
  unfold dist_Penalise_1.f
  by_cases h : a ≥ -1048576
  · rw [if_pos h]; congr 1; rw [decide_eq_decide]; omega
  · rw [if_neg h, decide_eq_false (fun hh => h hh.1)]
theorem own_penalise (l said : List Int) (hl : l.length ≤ 17592186044416) (w o e : Int) : Ev (fun k => dist_Penalise.f k l said w o e) (penaliseL l said w o e) := by
  unfold dist_Penalise.f penaliseL
  refine ev_is (show dist_scored.f l = some (scoredL l) by unfold dist_scored.f; rw [if_pos hl]) ?_
  cases hs : scoredL l with
  | false =>
    rw [if_pos rfl]
    exact ev_neg (by decide) (Ev.now _)
  | true =>
    obtain ⟨h1, h2⟩ := scored_ok hs
    rw [if_neg (by decide)]
    refine ev_pos rfl (ev_is (between_is _ _ _) ?_)
    by_cases c1 : w ≥ 0 ∧ w ≤ 65536
    rotate_left
    · rw [if_pos (by omega)]
      exact ev_neg (by rw [decide_eq_false c1]; decide) (bad_own l said w o e)
    refine ev_pos (decide_eq_true c1) (ev_is (pen1_is _) ?_)
    by_cases c2 : -1048576 ≤ o ∧ o ≤ 1048576
    rotate_left
    · rw [if_pos (by omega)]
      exact ev_neg (by rw [decide_eq_false c2]; decide) (bad_own l said w o e)
    refine ev_pos (decide_eq_true c2) (ev_is (pen1_is _) ?_)
    by_cases c3 : -1048576 ≤ e ∧ e ≤ 1048576
    rotate_left
    · rw [if_pos (by omega), decide_eq_false c3]
      exact bad_own l said w o e
    rw [if_neg (by omega), decide_eq_true c3]
    exact own_pen_j0 l h1 h2 w o e (by omega) c2 c3 said
theorem ref_penalise (l said : List Int) (hl : l.length < 4611686018427387904) (w o e : Int) : Ev (fun k => r22_Penalise.f k l said w o e) (penaliseL l said w o e) := by
  unfold r22_Penalise.f penaliseL
  refine Ev.bind (all_ev l hl) ?_
  cases hs : scoredL l with
  | false =>
    rw [if_pos rfl]
    exact ev_neg (by decide) (Ev.now _)
  | true =>
    obtain ⟨h1, h2⟩ := scored_ok hs
    rw [if_neg (by decide)]
    refine ev_pos rfl ?_
    by_cases c : ¬ (0 ≤ w ∧ w ≤ 65536 ∧ -1048576 ≤ o ∧ o ≤ 1048576 ∧ -1048576 ≤ e ∧ e ≤ 1048576)
    · rw [if_pos c]
      by_cases d1 : w < 0
      · exact ev_pos d1 (bad_ref l said w o e)
      refine ev_neg d1 ?_
      by_cases d2 : w > 65536
      · exact ev_pos d2 (bad_ref l said w o e)
      refine ev_neg d2 ?_
      by_cases d3 : o < -1048576
      · exact ev_pos d3 (bad_ref l said w o e)
      refine ev_neg d3 ?_
      by_cases d4 : o > 1048576
      · exact ev_pos d4 (bad_ref l said w o e)
      refine ev_neg d4 ?_
      by_cases d5 : e < -1048576
      · exact ev_pos d5 (bad_ref l said w o e)
      refine ev_neg d5 ?_
      rw [decide_eq_true (show e > 1048576 by omega)]
      exact bad_ref l said w o e
    · rw [if_neg c]
      have c' := Decidable.byContradiction c
      refine ev_neg (by omega) (ev_neg (by omega) (ev_neg (by omega) (ev_neg (by omega) (ev_neg (by omega) ?_))))
      rw [decide_eq_false (by omega)]
      exact ref_pen_j0 l h1 h2 w o e ⟨c'.1, c'.2.1⟩ ⟨c'.2.2.1, c'.2.2.2.1⟩ c'.2.2.2.2 said
theorem penalise_ok {l said : List Int} {w o e : Int} (h : (penaliseL l said w o e).2 = 0) : scoredL l = true ∧ said.any (offL l.length) = false ∧ said.length ≤ 65536 ∧ (0 ≤ w ∧ w ≤ 65536) ∧ (penaliseL l said w o e).1 = penL o e l (countL (List.replicate l.length 0) (lastsL said w)) := by
  unfold penaliseL at h ⊢
  by_cases c1 : scoredL l = false
  · rw [if_pos c1] at h; cases h
  rw [if_neg c1] at h ⊢
  by_cases c2 : ¬ (0 ≤ w ∧ w ≤ 65536 ∧ -1048576 ≤ o ∧ o ≤ 1048576 ∧ -1048576 ≤ e ∧ e ≤ 1048576)
  · rw [if_pos c2] at h; cases h
  rw [if_neg c2] at h ⊢
  by_cases c3 : said.length > 65536
  · rw [if_pos c3] at h; cases h
  rw [if_neg c3] at h ⊢
  by_cases c4 : said.any (offL l.length) = true
  · rw [if_pos c4] at h; cases h
  rw [if_neg c4] at h ⊢
  refine ⟨?_, ?_, by omega, by omega, rfl⟩
  · cases e : scoredL l with
    | false => exact (c1 e).elim
    | true => rfl
  · cases e : said.any (offL l.length) with
    | false => rfl
    | true => exact (c4 e).elim
theorem penalise_err {l said : List Int} {w o e : Int} (h : (penaliseL l said w o e).2 ≠ 0) : (penaliseL l said w o e).1 = [] := by
  unfold penaliseL at h ⊢
  split
  · rfl
  rename_i c1
  rw [if_neg c1] at h
  split
  · rfl
  rename_i c2
  rw [if_neg c2] at h
  split
  · rfl
  rename_i c3
  rw [if_neg c3] at h
  split
  · rfl
  rename_i c4
  rw [if_neg c4] at h
  exact (h rfl).elim
theorem penalise_len (l said : List Int) (w o e : Int) : (penaliseL l said w o e).1.length ≤ 512 := by
  by_cases h : (penaliseL l said w o e).2 = 0
  · obtain ⟨h1, h2, h3, h4, h5⟩ := penalise_ok h
    rw [h5, pen_len _ _ _ _ (by rw [count_len, List.length_replicate])]
    exact (scored_ok h1).1
  · rw [penalise_err h]; exact Nat.zero_le _
theorem lasts_in {said : List Int} {w : Int} : ∀ t ∈ lastsL said w, t ∈ said := by
  intro t ht
  unfold lastsL at ht
  split at ht
  · exact List.mem_of_mem_drop ht
  · exact ht
section
variable (l said : List Int) (w o e : Int) (hll : l.length < 17592186044416) (hsl : said.length < 17592186044416)
include hll hsl
theorem law_l3 (hok : (penaliseL l said w o e).2 = 0) (n : Nat) (hn : n ≤ 512) : ∀ (d i : Nat) (v : List Int), n - i = d → i ≤ n → v.length = n → Ev (fun k => w22_DistPenalties.l3 k l said l v (n : Int) (i : Int) w o e) true
  | d, i, v, hd, hi, hv => by
    refine Ev.step (fun k => by rw [w22_DistPenalties.l3]) ?_
    by_cases c : i < n
    · obtain ⟨d, rfl⟩ : ∃ e, d = e + 1 := ⟨d - 1, by omega⟩
      rw [w1 i (by omega)]
      exact ev_pos (by omega) (ev_pos (by omega) (ev_pos (by omega) (law_l3 hok n hn d (i + 1) _ (by omega) (by omega) (by rw [List.length_set]; exact hv))))
    · obtain ⟨h1, h2, h3, h4, h5⟩ := penalise_ok hok
      obtain ⟨g1, g2⟩ := scored_ok h1
      have he : penaliseL l said w 0 0 = (l, 0) := by
        unfold penaliseL
        rw [if_neg (by rw [h1]; decide), if_neg (by omega), if_neg (by omega), if_neg (by rw [h2]; decide), pen_none _ _ (by rw [count_len, List.length_replicate]) g2]
      refine ev_neg (by omega) (Ev.bind (own_penalise l said (by omega) w 0 0) ?_)
      rw [he]
      exact ev_pos rfl (Ev.bind (same_ev l (by omega)) (Ev.now _))
theorem law_l2 (hok : (penaliseL l said w o e).2 = 0) (h : List Bool) (hh : h.length = l.length) (hs : ∀ j, j < l.length → h.getD j false = false → (j : Int) ∉ said) : ∀ (d i : Nat), l.length - i = d → i ≤ l.length → Ev (fun k => w22_DistPenalties.l2 k l said l (penaliseL l said w o e).1 h ((penaliseL l said w o e).1.length : Int) (i : Int) w o e) true
  | d, i, hd, hi => by
    obtain ⟨h1, h2, h3, h4, h5⟩ := penalise_ok hok
    obtain ⟨g1, g2⟩ := scored_ok h1
    have hcl : (countL (List.replicate l.length 0) (lastsL said w)).length = l.length := by rw [count_len, List.length_replicate]
    have hpl : (penaliseL l said w o e).1.length = l.length := by rw [h5, pen_len _ _ _ _ hcl]
    refine Ev.step (fun k => by rw [w22_DistPenalties.l2]) ?_
    by_cases c : i < l.length
    · obtain ⟨d, rfl⟩ : ∃ e, d = e + 1 := ⟨d - 1, by omega⟩
      have hrest := law_l2 hok h hh hs d (i + 1) (by omega) (by omega)
      rw [w1 i (by omega)]
      refine ev_pos (by omega) (ev_pos (by omega) (ev_pos (by omega) ?_))
      by_cases c1 : rdOf false h (i : Int) = true
      · exact ev_pos c1 hrest
      refine ev_neg c1 (ev_pos (by omega) (ev_pos (by omega) (ev_pos ?_ hrest)))
      have c1' : h.getD i false = false := by
        have hrd : rdOf false h (i : Int) = h.getD i false := by unfold rdOf; rw [Int.toNat_natCast]
        rw [hrd] at c1
        cases e : h.getD i false with
        | false => rfl
        | true => exact (c1 e).elim
      have hz := hs i c c1'
      rw [rd_nat, rd_nat, h5, pen_get _ _ _ _ hcl i c, count_zero _ _ (fun t ht => ?_) i (by rw [List.length_replicate]; exact c) (fun hm => hz (lasts_in _ hm))]
      · rw [if_neg]
        rw [List.getD_eq_getElem?_getD, List.getElem?_replicate, if_pos c]
        decide
      · rw [List.length_replicate]
        refine (offL_iff l.length t).1 ?_
        have := List.any_eq_false.1 h2 t (lasts_in t ht)
        cases e : offL l.length t with
        | false => rfl
        | true => exact (this e).elim
    · rw [hpl] 
      refine ev_neg (by omega) ?_
      exact law_l3 l said w o e hll hsl hok l.length g1 _ 0 _ rfl (Nat.zero_le _) hpl
theorem law_l1 (hok : (penaliseL l said w o e).2 = 0) : ∀ (d i : Nat) (h : List Bool), said.length - i = d → i ≤ said.length → h.length = l.length → (∀ q, q < i → ∀ j, j < l.length → said.getD q 0 = (j : Int) → h.getD j false = true) → Ev (fun k => w22_DistPenalties.l1 k l said l (penaliseL l said w o e).1 h said (said.length : Int) (i : Int) w o e) true
  | d, i, h, hd, hi, hh, hq => by
    obtain ⟨h1, h2, h3, h4, h5⟩ := penalise_ok hok
    refine Ev.step (fun k => by rw [w22_DistPenalties.l1]) ?_
    by_cases c : i < said.length
    · obtain ⟨d, rfl⟩ : ∃ e, d = e + 1 := ⟨d - 1, by omega⟩
      have hin : 0 ≤ said.getD i 0 ∧ said.getD i 0 < (l.length : Int) := by
        refine (offL_iff l.length _).1 ?_
        have := List.any_eq_false.1 h2 _ (getD_mem said i c)
        cases e : offL l.length (said.getD i 0) with
        | false => rfl
        | true => exact (this e).elim
      rw [rd_nat, w1 i (by omega)]
      refine ev_pos (by omega) (ev_pos (by omega) (ev_pos (by omega) (ev_pos (by omega) (ev_pos (by omega) (law_l1 hok d (i + 1) _ (by omega) (by omega) (by rw [List.length_set]; exact hh) (fun q hq1 j hj he => ?_))))))
      simp only [List.getD_eq_getElem?_getD, List.getElem?_set]
      by_cases cj : (said.getD i 0).toNat = j
      · rw [List.getD_eq_getElem?_getD] at cj
        rw [if_pos cj, if_pos (by omega)]; rfl
      · by_cases cq : q = i
        · subst cq; omega
        · have := hq q (by omega) j hj he
          rw [List.getD_eq_getElem?_getD] at cj this
          rw [if_neg cj, this]
    · obtain rfl : i = said.length := by omega
      refine ev_neg (by omega) (law_l2 l said w o e hll hsl hok h hh (fun j hj hf hm => ?_) _ 0 rfl (Nat.zero_le _))
      obtain ⟨q, hq1, hq2⟩ := List.getElem_of_mem hm
      have := hq q hq1 j hj (by rw [List.getD_eq_getElem?_getD, List.getElem?_eq_getElem hq1, hq2]; rfl)
      rw [this] at hf
      cases hf
theorem law_l0 : ∀ (d i : Nat), said.length - i = d → i ≤ said.length → Ev (fun k => w22_DistPenalties.l0 k l said l said (penaliseL l said w o e).1 (penaliseL l said w o e).2 (said.length : Int) (i : Int) w o e) true
  | d, i, hd, hi => by
    refine Ev.step (fun k => by rw [w22_DistPenalties.l0]) ?_
    by_cases c : i < said.length
    · obtain ⟨d, rfl⟩ : ∃ e, d = e + 1 := ⟨d - 1, by omega⟩
      rw [w1 i (by omega)]
      exact ev_pos (by omega) (ev_pos (by omega) (ev_pos (by omega) (ev_pos (by omega) (ev_pos rfl (law_l0 d (i + 1) (by omega) (by omega))))))
    · refine ev_neg (by omega) ?_
      by_cases hok : (penaliseL l said w o e).2 = 0
      · refine ev_pos hok (ev_pos (by omega) ?_)
        rw [Int.toNat_natCast]
        exact ev_pos (by omega) (law_l1 l said w o e hll hsl hok _ 0 _ rfl (Nat.zero_le _) List.length_replicate (fun q h => by omega))
      · refine ev_neg hok ?_
        rw [penalise_err hok]
        exact Ev.now _
end
theorem DistPenalties : w22_DistPenalties.Plain := by
  intro l said p hl hs hp
  have h1 := hl.1
  have h2 := hs.1
  have hlen := penalise_len l said p.f0 p.f1 p.f2
  refine ev_rounds ?_
  unfold w22_DistPenalties.f
  refine Ev.bind awake (ev_pos rfl (ev_some (ev_pos (by simp; omega) (ev_some (ev_some (ev_pos (by simp; omega) (ev_some ?_)))))))
  rw [List.nil_append, List.nil_append]
  refine Ev.bind (own_penalise l said (by omega) p.f0 p.f1 p.f2) (Ev.bind (ref_penalise l said (by omega) p.f0 p.f1 p.f2) (Ev.bind (same_ev _ (by omega)) (ev_pos rfl (ev_pos rfl (Ev.bind (same_ev l (by omega)) (Ev.step (fun k => by rw [w22_DistPenalties.j0]) (ev_neg (by decide) ?_)))))))
  exact law_l0 l said p.f0 p.f1 p.f2 (by omega) (by omega) _ 0 rfl (Nat.zero_le _)
end Go.Proofs.Ythmckhfjaleomaa.Pure
