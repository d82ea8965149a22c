/- attend and its reference: what all heads of a row see. -/
import Derived.Test.YtmjepdhjginelaaAtt2
import Derived.Test.YtmjepdhjginelaaB6
import Derived.Test.YtmjepdhjginelaaB7
import Derived.Test.YtmjepdhjginelaaB13
import Derived.Test.YtmjepdhjginelaaB14
import Derived.Test.YtmjepdhjginelaaBArgs
namespace Go.Proofs.Ytmjepdhjginelaa.Pure
set_option linter.unusedSimpArgs false
set_option linter.unusedVariables false
set_option linter.unusedSectionVars false
open Go.RowKit Go.Proofs.YtmjepdhjginelaaW.PrintWords Go.Proofs.YtmjepdhjginelaaW.PrintLast Go.Proofs.YtmjepdhjginelaaW.PrintMore Go.Proofs.Ytmjepdhjginelaa.B Go.Proofs.Ytmjepdhjginelaa.St

/-! ### cuts -/
def cutL (a n : Nat) (l : List Int) : List Int := (l.take (a + n)).drop a
theorem cutL_len (a n : Nat) (l : List Int) (h : a + n ≤ l.length) : (cutL a n l).length = n := by
  unfold cutL
  rw [List.length_drop, List.length_take]; omega
theorem cutL_i8 (a n : Nat) (l : List Int) (h : I8 l) : I8 (cutL a n l) := fun x hx => h x (List.mem_of_mem_take (List.mem_of_mem_drop hx))
theorem cutL_getD (a n c : Nat) (l : List Int) (hc : c < n) : (cutL a n l).getD c 0 = l.getD (a + c) 0 := by
  unfold cutL
  rw [List.getD_eq_getElem?_getD, List.getD_eq_getElem?_getD, List.getElem?_drop, List.getElem?_take, if_pos (by omega)]
theorem wa (a n : Nat) (h : a + n ≤ 4611686018427387904) : wrap64 ((a : Int) + (n : Int)) = ((a + n : Nat) : Int) := by rw [w64 (by omega) (by omega)]; omega
theorem cut_ev_l (a n : Nat) (rows : List (List Int)) (hl : rows.length ≤ 512) (ha : a + n ≤ 64) (hr : ∀ r ∈ rows, a + n ≤ r.length) : ∀ (d i : Nat), rows.length - i = d → i ≤ rows.length →
    Ev (fun k => attend_Look_1.l0 k (a : Int) (n : Int) ((rows.take i).map (cutL a n)) rows (rows.length : Int) (i : Int)) (rows.map (cutL a n))
  | d, i, hd, hi => by
    refine Ev.step (fun k => by rw [attend_Look_1.l0]) ?_
    by_cases q : i < rows.length
    · obtain ⟨d, rfl⟩ : ∃ e, d = e + 1 := ⟨d - 1, by omega⟩
      have hgo := cut_ev_l a n rows hl ha hr d (i + 1) (by omega) (by omega)
      rw [List.take_succ_eq_append_getElem q, List.map_append, List.map_cons, List.map_nil] at hgo
      have he : rows.getD i [] = rows[i] := by rw [List.getD_eq_getElem?_getD, List.getElem?_eq_getElem q]; rfl
      have hlen := hr _ (getD_memL rows i q)
      rw [rdL, w1 i (by omega), wa a n (by omega), Int.toNat_natCast, Int.toNat_natCast]
      refine ev_pos (by omega) (ev_pos (by omega) (ev_pos (by omega) (ev_pos (by omega) (ev_pos (by omega) (ev_pos (by omega) (ev_pos (by rw [List.length_map, List.length_take]; omega) ?_))))))
      rw [he]
      exact hgo
    · obtain rfl : i = rows.length := by omega
      rw [List.take_length]
      exact ev_neg (by omega) (Ev.now _)
theorem cut_ev (a n : Nat) (rows : List (List Int)) (hl : rows.length ≤ 512) (ha : a + n ≤ 64) (hr : ∀ r ∈ rows, a + n ≤ r.length) : Ev (fun k => attend_Look_1.f k rows (a : Int) (n : Int)) (rows.map (cutL a n)) := by
  unfold attend_Look_1.f
  exact cut_ev_l a n rows hl ha hr _ 0 rfl (Nat.zero_le _)
theorem fit_cut (q : List Int) (ks : List (List Int)) (a n : Nat) (hk : fitL q ks = true) (hn : 1 ≤ n) (ha : a + n ≤ q.length) : fitL (cutL a n q) (ks.map (cutL a n)) = true := by
  obtain ⟨⟨h1, h2, h3, h4⟩, h5⟩ := fitL_ok hk
  unfold fitL
  rw [List.length_map, cutL_len a n q ha, decide_eq_true (by omega), Bool.true_and, List.all_eq_true]
  intro r hr
  obtain ⟨x, hx, rfl⟩ := List.mem_map.1 hr
  rw [cutL_len a n x (by rw [h5 x hx]; exact ha)]
  exact beq_self_eq_true _
theorem scores_0 (q : List Int) (ks : List (List Int)) (s : Int) (hk : fitL q ks = true) (hs : 0 ≤ s ∧ s ≤ 31) : (scoresL q ks s).2 = 0 := by
  unfold scoresL
  rw [hk, if_neg (by decide), if_neg (by omega)]
/-- What the head at place a of so many numbers says. -/
def headO (q : List Int) (ks vs : List (List Int)) (s : Int) (a n : Nat) : List Int :=
  meansL (weightsL (scoresL (cutL a n q) (ks.map (cutL a n)) s).1) (vs.map (cutL a n)) n
theorem head_cut (q : List Int) (ks vs : List (List Int)) (s : Int) (a n : Nat) (hk : fitL q ks = true) (hv : fitL q vs = true) (hl : vs.length = ks.length) (hs : 0 ≤ s ∧ s ≤ 31) (hn : 1 ≤ n) (ha : a + n ≤ q.length) :
    headL (cutL a n q) (ks.map (cutL a n)) (vs.map (cutL a n)) s = (headO q ks vs s a n, 0) := by
  unfold headL headO
  have h1 := fit_cut q ks a n hk hn ha
  have h2 := fit_cut q vs a n hv hn ha
  rw [if_neg (by rw [scores_0 _ _ s h1 hs]; simp), if_neg (by rintro (h | h); exact h (by rw [List.length_map, List.length_map]; exact hl); rw [h2] at h; cases h), cutL_len a n q ha]
theorem headO_len (q : List Int) (ks vs : List (List Int)) (s : Int) (a n : Nat) : (headO q ks vs s a n).length = n := meansL_len _ _ _
theorem cut_rows_i8 (a n : Nat) (vs : List (List Int)) (h : ∀ r ∈ vs, I8 r) : ∀ r ∈ vs.map (cutL a n), I8 r := by
  intro r hr
  obtain ⟨x, hx, rfl⟩ := List.mem_map.1 hr
  exact cutL_i8 a n x (h x hx)

/-! ### all heads -/
def headsL (q : List Int) (ks vs : List (List Int)) (s : Int) (n : Nat) : Nat → List Int
  | 0 => []
  | h + 1 => headsL q ks vs s n h ++ headO q ks vs s (h * n) n
theorem headsL_len (q : List Int) (ks vs : List (List Int)) (s : Int) (n h : Nat) : (headsL q ks vs s n h).length = h * n := by
  induction h with
  | zero => rw [Nat.zero_mul]; rfl
  | succ h ih => rw [headsL, List.length_append, ih, headO_len, Nat.succ_mul]
def lookE (q : List Int) (heads : Int) (ks vs : List (List Int)) (s : Int) : Int :=
  if heads < 1 ∨ (q.length : Int) % heads ≠ 0 then 190 else if fitL q ks = false ∨ fitL q vs = false then 191 else if s < 0 ∨ s > 31 then 20 else 0
def lookL (q : List Int) (heads : Int) (ks vs : List (List Int)) (s : Int) : List Int × Int :=
  if lookE q heads ks vs s ≠ 0 then ([], lookE q heads ks vs s) else (headsL q ks vs s (q.length / heads.toNat) heads.toNat, 0)
theorem lookE_0 {q : List Int} {heads : Int} {ks vs : List (List Int)} {s : Int} (h : lookE q heads ks vs s = 0) :
    (1 ≤ heads ∧ q.length = heads.toNat * (q.length / heads.toNat) ∧ 1 ≤ q.length / heads.toNat) ∧ (fitL q ks = true ∧ fitL q vs = true) ∧ 0 ≤ s ∧ s ≤ 31 := by
  unfold lookE at h
  by_cases c1 : heads < 1 ∨ (q.length : Int) % heads ≠ 0
  · rw [if_pos c1] at h; cases h
  rw [if_neg c1] at h
  by_cases c2 : fitL q ks = false ∨ fitL q vs = false
  · rw [if_pos c2] at h; cases h
  rw [if_neg c2] at h
  by_cases c3 : s < 0 ∨ s > 31
  · rw [if_pos c3] at h; cases h
  have hk : fitL q ks = true := by cases e : fitL q ks with | true => rfl | false => exact (c2 (Or.inl e)).elim
  have hv : fitL q vs = true := by cases e : fitL q vs with | true => rfl | false => exact (c2 (Or.inr e)).elim
  obtain ⟨⟨h1, h2, h3, h4⟩, h5⟩ := fitL_ok hk
  have hH : ((heads.toNat : Nat) : Int) = heads := by omega
  have hm : q.length % heads.toNat = 0 := by
    have : (q.length : Int) % ((heads.toNat : Nat) : Int) = 0 := by rw [hH]; exact Decidable.byContradiction fun h => c1 (Or.inr h)
    rw [← Int.natCast_emod] at this
    omega
  have hq : q.length = heads.toNat * (q.length / heads.toNat) := by have := Nat.div_add_mod q.length heads.toNat; omega
  refine ⟨⟨by omega, hq, ?_⟩, ⟨hk, hv⟩, by omega, by omega⟩
  cases e : q.length / heads.toNat with
  | zero => rw [e] at hq; omega
  | succ n => omega
theorem place (H n h : Nat) (c : h < H) : h * n + n ≤ H * n := by
  have := Nat.mul_le_mul_right n (show h + 1 ≤ H from c)
  rw [Nat.succ_mul] at this
  exact this
theorem own_heads (q : List Int) (ks vs : List (List Int)) (s : Int) (n H : Nat) (hq : q.length = H * n) (hn : 1 ≤ n) (hk : fitL q ks = true) (hv : fitL q vs = true) (hl : vs.length = ks.length) (hs : 0 ≤ s ∧ s ≤ 31) (h8 : ∀ r ∈ vs, I8 r) : ∀ (d h : Nat), H - h = d → h ≤ H →
    Ev (fun k => attend_Look.l1 k q s ks vs (headsL q ks vs s n h) (n : Int) ((h * n : Nat) : Int)) (headsL q ks vs s n H, 0)
  | d, h, hd, hh => by
    obtain ⟨⟨h1, h2, h3, h4⟩, h5⟩ := fitL_ok hk
    obtain ⟨⟨g1, g2, g3, g4⟩, g5⟩ := fitL_ok hv
    refine Ev.step (fun k => by rw [attend_Look.l1]) ?_
    by_cases c : h < H
    · obtain ⟨d, rfl⟩ : ∃ e, d = e + 1 := ⟨d - 1, by omega⟩
      have hp := place H n h c
      have hgo := own_heads q ks vs s n H hq hn hk hv hl hs h8 d (h + 1) (by omega) (by omega)
      rw [headsL, Nat.succ_mul] at hgo
      have hhl := headsL_len q ks vs s n h
      generalize h * n = a at *
      rw [wa a n (by omega), Int.toNat_natCast, Int.toNat_natCast]
      refine ev_pos (by omega) (ev_pos (by omega) (ev_pos (by omega) (ev_pos (by omega) (Ev.bind (cut_ev a n ks h2 (by omega) (fun r hr => by rw [h5 r hr]; omega)) (Ev.bind (cut_ev a n vs g2 (by omega) (fun r hr => by rw [g5 r hr]; omega)) ?_)))))
      have hh := own_head (cutL a n q) (ks.map (cutL a n)) (vs.map (cutL a n)) s (cut_rows_i8 a n vs h8)
      rw [head_cut q ks vs s a n hk hv hl hs hn (by omega)] at hh
      exact Ev.bind hh (ev_pos rfl (ev_pos (by rw [hhl, headO_len]; omega) hgo))
    · obtain rfl : h = H := by omega
      exact ev_neg (by omega) (Ev.now _)
theorem rd49 (l : List S49) (i : Nat) : rd_T49 l (i : Int) = l.getD i z49 := by unfold rd_T49; rw [Int.toNat_natCast]
theorem rd50 (l : List S50) (i : Nat) : rd_T50 l (i : Int) = l.getD i z50 := by unfold rd_T50; rw [Int.toNat_natCast]
abbrev P49 := S49
abbrev P50 := S50
def ksL (l : List P49) : List (List Int) := l.map fun p => p.f0
def vsL (l : List P49) : List (List Int) := l.map fun p => p.f1
theorem getD_map49 (l : List P49) (i : Nat) (h : i < l.length) : l.getD i z49 = l[i] := by rw [List.getD_eq_getElem?_getD, List.getElem?_eq_getElem h]; rfl
theorem getD_map50 (l : List P50) (i : Nat) (h : i < l.length) : l.getD i z50 = l[i] := by rw [List.getD_eq_getElem?_getD, List.getElem?_eq_getElem h]; rfl
theorem own_look_l (q : List Int) (heads : Int) (l : List P49) (s : Int) (hL : l.length * 48 ≤ 140737488351232) (h8 : ∀ r ∈ vsL l, I8 r) (h1 : 1 ≤ heads) (hm : (q.length : Int) % heads = 0) : ∀ (d i : Nat), l.length - i = d → i ≤ l.length →
    Ev (fun k => attend_Look.l0 k q heads s (ksL (l.take i)) (vsL (l.take i)) l (l.length : Int) (i : Int)) (lookL q heads (ksL l) (vsL l) s)
  | d, i, hd, hi => by
    refine Ev.step (fun k => by rw [attend_Look.l0]) ?_
    by_cases c : i < l.length
    · obtain ⟨d, rfl⟩ : ∃ e, d = e + 1 := ⟨d - 1, by omega⟩
      have hgo := own_look_l q heads l s hL h8 h1 hm d (i + 1) (by omega) (by omega)
      unfold ksL vsL at hgo ⊢
      rw [List.take_succ_eq_append_getElem c, List.map_append, List.map_cons, List.map_nil, List.map_append, List.map_cons, List.map_nil] at hgo
      rw [rd49, getD_map49 l i c, w1 i (by omega)]
      refine ev_pos (by omega) (ev_pos (by omega) (ev_pos (by omega) (ev_some (ev_pos ?_ (ev_some (ev_pos ?_ hgo))))))
      · rw [List.length_map, List.length_take, List.length_cons, List.length_nil]; omega
      · rw [List.length_map, List.length_take, List.length_cons, List.length_nil]; omega
    · obtain rfl : i = l.length := by omega
      rw [List.take_length]
      refine ev_neg (by omega) ?_
      have h190 : ¬ (heads < 1 ∨ (q.length : Int) % heads ≠ 0) := by rintro (h | h); omega; exact h hm
      have bad : fitL q (ksL l) = false ∨ fitL q (vsL l) = false → Ev (fun k => attend_Look.j2 k q heads s (ksL l) (vsL l) true) (lookL q heads (ksL l) (vsL l) s) := by
        intro h
        unfold lookL lookE
        rw [if_neg h190, if_pos h, if_pos (by decide)]
        refine Ev.step (fun k => by rw [attend_Look.j2]) ?_
        exact ev_pos rfl (Ev.now _)
      refine Ev.bind (fit_ev q (ksL l)) ?_
      cases hk : fitL q (ksL l) with
      | false => exact ev_neg (by decide) (bad (Or.inl hk))
      | true =>
        refine ev_pos rfl (Ev.bind (fit_ev q (vsL l)) ?_)
        cases hv : fitL q (vsL l) with
        | false => exact bad (Or.inr hv)
        | true =>
          show Ev (fun k => attend_Look.j2 k q heads s (ksL l) (vsL l) false) _
          refine Ev.step (fun k => by rw [attend_Look.j2]) ?_
          refine ev_neg (by decide) ?_
          have hfit : ¬ (fitL q (ksL l) = false ∨ fitL q (vsL l) = false) := by rw [hk, hv]; simp
          by_cases c1 : s < 0
          · unfold lookL lookE
            rw [if_neg h190, if_neg hfit, if_pos (Or.inl c1), if_pos (by decide)]
            exact ev_pos c1 (Ev.now _)
          by_cases c2 : s > 31
          · unfold lookL lookE
            rw [if_neg h190, if_neg hfit, if_pos (Or.inr c2), if_pos (by decide)]
            exact ev_neg c1 (ev_pos c2 (Ev.now _))
          have h0 : lookE q heads (ksL l) (vsL l) s = 0 := by
            unfold lookE
            rw [if_neg h190, if_neg hfit, if_neg (by omega)]
          obtain ⟨⟨a1, a2, a3⟩, _, a4⟩ := lookE_0 h0
          obtain ⟨⟨b1, b2, b3, b4⟩, b5⟩ := fitL_ok hk
          unfold lookL
          rw [if_neg (by rw [h0]; simp)]
          refine ev_neg c1 (ev_neg c2 (ev_neg (by omega) ?_))
          have hH : ((heads.toNat : Nat) : Int) = heads := by omega
          have hdiv : wrap64 ((q.length : Int) / heads) = ((q.length / heads.toNat : Nat) : Int) := by
            have e : (q.length : Int) / heads = ((q.length / heads.toNat : Nat) : Int) := by rw [Int.natCast_ediv, hH]
            have : q.length / heads.toNat ≤ q.length := Nat.div_le_self _ _
            rw [e, w64 (by omega) (by omega)]
          rw [hdiv]
          have h := own_heads q (ksL l) (vsL l) s _ _ a2 a3 hk hv (by unfold ksL vsL; rw [List.length_map, List.length_map]) a4 h8 _ 0 rfl (Nat.zero_le _)
          rw [Nat.zero_mul] at h
          exact h
theorem own_look (q : List Int) (heads : Int) (l : List P49) (s : Int) (hL : l.length * 48 ≤ 140737488351232) (h8 : ∀ r ∈ vsL l, I8 r) : Ev (fun k => attend_Look.f k q heads l s) (lookL q heads (ksL l) (vsL l) s) := by
  unfold attend_Look.f
  have bad : heads < 1 ∨ (q.length : Int) % heads ≠ 0 → Ev (fun k => attend_Look.j0 k q heads l s true) (lookL q heads (ksL l) (vsL l) s) := by
    intro h
    unfold lookL lookE
    rw [if_pos h, if_pos (by decide)]
    refine Ev.step (fun k => by rw [attend_Look.j0]) ?_
    exact ev_pos rfl (Ev.now _)
  by_cases c : heads < 1
  · exact ev_pos c (bad (Or.inl c))
  refine ev_neg c (ev_neg (by omega) ?_)
  by_cases c2 : (q.length : Int) % heads = 0
  · rw [show ((q.length : Int) % heads != 0) = false by rw [c2]; rfl]
    refine Ev.step (fun k => by rw [attend_Look.j0]) ?_
    exact ev_neg (by decide) (own_look_l q heads l s hL h8 (by omega) c2 _ 0 rfl (Nat.zero_le _))
  · rw [show ((q.length : Int) % heads != 0) = true by rw [bne_iff_ne]; exact c2]
    exact bad (Or.inr c2)

/-! ### the document's -/
def prL (l : List P49) : List P50 := l.map fun p => ⟨p.f0, p.f1⟩
theorem pairs_l (l : List P49) (hL : l.length * 48 ≤ 140737488351232) (hG : ∀ p ∈ l, p.f0.length * 1 ≤ 140737488351232 ∧ p.f1.length * 1 ≤ 140737488351232) : ∀ (d i : Nat), l.length - i = d → i ≤ l.length →
    Ev (fun k => w19_pairs.l0 k l (prL (l.take i)) (i : Int)) (prL l)
  | d, i, hd, hi => by
    refine Ev.step (fun k => by rw [w19_pairs.l0]) ?_
    by_cases c : i < l.length
    · obtain ⟨d, rfl⟩ : ∃ e, d = e + 1 := ⟨d - 1, by omega⟩
      have hgo := pairs_l l hL hG d (i + 1) (by omega) (by omega)
      unfold prL at hgo ⊢
      rw [List.take_succ_eq_append_getElem c, List.map_append, List.map_cons, List.map_nil] at hgo
      have hg := hG _ (List.getElem_mem c)
      rw [rd49, getD_map49 l i c, w1 i (by omega)]
      refine ev_pos (by omega) (ev_some (ev_pos (by omega) (ev_pos (by rw [List.length_nil]; omega) (ev_some (ev_pos (by rw [List.length_nil]; omega) (ev_pos ?_ ?_))))))
      · rw [List.length_map, List.length_take]; omega
      · rw [List.nil_append, List.nil_append]
        exact hgo
    · obtain rfl : i = l.length := by omega
      rw [List.take_length]
      exact ev_neg (by omega) (Ev.now _)
theorem pairs_ev (l : List P49) (hL : l.length * 48 ≤ 140737488351232) (hG : ∀ p ∈ l, p.f0.length * 1 ≤ 140737488351232 ∧ p.f1.length * 1 ≤ 140737488351232) : Ev (fun k => w19_pairs.f k l) (prL l) := by
  unfold w19_pairs.f
  exact pairs_l l hL hG _ 0 rfl (Nat.zero_le _)
theorem wm (a b c : Nat) (h : a * b = c) (hc : c ≤ 4611686018427387904) : wrap64 ((a : Int) * (b : Int)) = (c : Int) := by
  rw [← Int.natCast_mul, h, w64 (by omega) (by omega)]
theorem ref_cut (q : List Int) (heads : Int) (l : List P50) (ks vs : List (List Int)) (s : Int) (n h a : Nat) (o : List Int) (R : List Int × Int) (e1 : wrap64 ((h : Int) * (n : Int)) = (a : Int)) (e2 : wrap64 (wrap64 ((h : Int) + 1) * (n : Int)) = ((a + n : Nat) : Int)) (hp : a + n ≤ q.length) (hlk : ks.length = l.length) (hlv : vs.length = l.length) (hn : 1 ≤ n) (hh : h ≤ 64)
    (hk : fitL q ks = true) (hv : fitL q vs = true) (hs : 0 ≤ s ∧ s ≤ 31) (h8 : ∀ r ∈ vs, I8 r) (ho : o.length ≤ 64)
    (hR : Ev (fun k => r19_Look.l1 k q heads l s ks vs (n : Int) (o ++ headO q ks vs s a n) ((h + 1 : Nat) : Int)) R) : ∀ (d i : Nat), l.length - i = d → i ≤ l.length →
    Ev (fun k => r19_Look.l2 k q heads l s ks vs (n : Int) o (h : Int) ((ks.take i).map (cutL a n)) ((vs.take i).map (cutL a n)) (i : Int)) R
  | d, i, hd, hi => by
    obtain ⟨⟨h1, h2, h3, h4⟩, h5⟩ := fitL_ok hk
    obtain ⟨⟨g1, g2, g3, g4⟩, g5⟩ := fitL_ok hv
    refine Ev.step (fun k => by rw [r19_Look.l2]) ?_
    by_cases c : i < l.length
    · obtain ⟨d, rfl⟩ : ∃ e, d = e + 1 := ⟨d - 1, by omega⟩
      have hgo := ref_cut q heads l ks vs s n h a o R e1 e2 hp hlk hlv hn hh hk hv hs h8 ho hR d (i + 1) (by omega) (by omega)
      rw [List.take_succ_eq_append_getElem (show i < ks.length by omega), List.map_append, List.map_cons, List.map_nil, List.take_succ_eq_append_getElem (show i < vs.length by omega), List.map_append, List.map_cons, List.map_nil] at hgo
      have hek : ks.getD i [] = ks[i] := by rw [List.getD_eq_getElem?_getD, List.getElem?_eq_getElem (show i < ks.length by omega)]; rfl
      have hev : vs.getD i [] = vs[i] := by rw [List.getD_eq_getElem?_getD, List.getElem?_eq_getElem (show i < vs.length by omega)]; rfl
      have lk := h5 _ (getD_memL ks i (by omega))
      have lv := g5 _ (getD_memL vs i (by omega))
      rw [e1, e2, Int.toNat_natCast, Int.toNat_natCast, rdL, rdL, w1 i (by omega)]
      clear e1 e2 hR
      refine ev_pos (by omega) (ev_pos (by omega) (ev_pos (by omega) (ev_pos (by omega) (ev_pos (by omega) (ev_pos (by omega) (ev_pos (by rw [List.length_map, List.length_take]; omega) (ev_pos (by omega) (ev_pos (by omega) (ev_pos (by rw [List.length_map, List.length_take]; omega) ?_)))))))))
      rw [hek, hev]
      exact hgo
    · obtain rfl : i = l.length := by omega
      rw [List.take_of_length_le (by omega), List.take_of_length_le (by omega), e1, e2, Int.toNat_natCast, Int.toNat_natCast, w1 h (by omega)]
      clear e1 e2
      have hq := ref_head (cutL a n q) (ks.map (cutL a n)) (vs.map (cutL a n)) s (cut_rows_i8 _ n vs h8)
      rw [head_cut q ks vs s a n hk hv (by omega) hs hn (by omega)] at hq
      have hol := headO_len q ks vs s a n
      refine ev_neg (by omega) (ev_pos (by omega) (ev_pos (by omega) (ev_pos (by omega) (Ev.bind hq (ev_pos (show o.length + (headO q ks vs s a n).length < 140737488355328 by omega) hR)))))
theorem where_h (H n h : Nat) (hq : H * n ≤ 64) (c : h < H) (hn : 1 ≤ n) : wrap64 ((h : Int) * (n : Int)) = ((h * n : Nat) : Int) ∧ wrap64 (wrap64 ((h : Int) + 1) * (n : Int)) = ((h * n + n : Nat) : Int) ∧ h ≤ 64 := by
  have hp := place H n h c
  have hH : H ≤ 64 := by
    have := Nat.mul_le_mul_left H hn
    omega
  refine ⟨wm h n (h * n) rfl (by omega), ?_, by omega⟩
  rw [w1 h (by omega)]
  exact wm (h + 1) n (h * n + n) (Nat.succ_mul h n) (by omega)
theorem ref_heads (q : List Int) (l : List P50) (ks vs : List (List Int)) (s : Int) (n H : Nat) (hq : q.length = H * n) (hlk : ks.length = l.length) (hlv : vs.length = l.length) (hn : 1 ≤ n) (hk : fitL q ks = true) (hv : fitL q vs = true) (hs : 0 ≤ s ∧ s ≤ 31) (h8 : ∀ r ∈ vs, I8 r) : ∀ (d h : Nat), H - h = d → h ≤ H →
    Ev (fun k => r19_Look.l1 k q (H : Int) l s ks vs (n : Int) (headsL q ks vs s n h) (h : Int)) (headsL q ks vs s n H, 0)
  | d, h, hd, hh => by
    obtain ⟨⟨h1, h2, h3, h4⟩, h5⟩ := fitL_ok hk
    refine Ev.step (fun k => by rw [r19_Look.l1]) ?_
    by_cases c : h < H
    · obtain ⟨d, rfl⟩ : ∃ e, d = e + 1 := ⟨d - 1, by omega⟩
      have hgo := ref_heads q l ks vs s n H hq hlk hlv hn hk hv hs h8 d (h + 1) (by omega) (by omega)
      rw [headsL] at hgo
      have hhl := headsL_len q ks vs s n h
      have hp := place H n h c
      obtain ⟨e1, e2, e3⟩ := where_h H n h (by omega) c hn
      have hlt : (h : Int) < (H : Int) := by omega
      have ho : (headsL q ks vs s n h).length ≤ 64 := by rw [hhl]; exact Nat.le_trans (Nat.le_trans (Nat.le_add_right _ n) hp) (hq ▸ h4)
      refine ev_pos hlt ?_
      exact ref_cut q (H : Int) l ks vs s n h (h * n) _ _ e1 e2 (hq ▸ hp) hlk hlv hn e3 hk hv hs h8 ho hgo _ 0 rfl (Nat.zero_le _)
    · obtain rfl : h = H := by omega
      exact ev_neg (by omega) (Ev.now _)
theorem ref_look_l (q : List Int) (heads : Int) (l : List P49) (s : Int) (hL : l.length * 48 ≤ 140737488351232) (h8 : ∀ r ∈ vsL l, I8 r) (h1 : 1 ≤ heads) (hm : (q.length : Int) % heads = 0) : ∀ (d i : Nat), l.length - i = d → i ≤ l.length →
    Ev (fun k => r19_Look.l0 k q heads (prL l) s (ksL (l.take i)) (vsL (l.take i)) (i : Int)) (lookL q heads (ksL l) (vsL l) s)
  | d, i, hd, hi => by
    have hpl : (prL l).length = l.length := by unfold prL; rw [List.length_map]
    refine Ev.step (fun k => by rw [r19_Look.l0]) ?_
    by_cases c : i < l.length
    · obtain ⟨d, rfl⟩ : ∃ e, d = e + 1 := ⟨d - 1, by omega⟩
      have hgo := ref_look_l q heads l s hL h8 h1 hm d (i + 1) (by omega) (by omega)
      unfold ksL vsL at hgo ⊢
      rw [List.take_succ_eq_append_getElem c, List.map_append, List.map_cons, List.map_nil, List.map_append, List.map_cons, List.map_nil] at hgo
      have e : (prL l).getD i z50 = ⟨l[i].f0, l[i].f1⟩ := by
        rw [getD_map50 _ i (by omega)]
        unfold prL
        rw [List.getElem_map]
      rw [rd50, e, w1 i (by omega)]
      refine ev_pos (by omega) (ev_pos (by omega) (ev_pos ?_ (ev_pos ?_ hgo)))
      · rw [List.length_map, List.length_take]; omega
      · rw [List.length_map, List.length_take]; omega
    · obtain rfl : i = l.length := by omega
      rw [List.take_length]
      refine ev_neg (by omega) ?_
      have h190 : ¬ (heads < 1 ∨ (q.length : Int) % heads ≠ 0) := by rintro (h | h); omega; exact h hm
      have bad : fitL q (ksL l) = false ∨ fitL q (vsL l) = false → Ev (fun k => r19_Look.j2 k q heads (prL l) s (ksL l) (vsL l) true) (lookL q heads (ksL l) (vsL l) s) := by
        intro h
        unfold lookL lookE
        rw [if_neg h190, if_pos h, if_pos (by decide)]
        refine Ev.step (fun k => by rw [r19_Look.j2]) ?_
        exact ev_pos rfl (Ev.now _)
      refine Ev.bind (wrong_ev q (ksL l)) ?_
      cases hk : fitL q (ksL l) with
      | false => exact ev_pos rfl (bad (Or.inl hk))
      | true =>
        refine ev_neg (by decide) (Ev.bind (wrong_ev q (vsL l)) ?_)
        cases hv : fitL q (vsL l) with
        | false => exact bad (Or.inr hv)
        | true =>
          show Ev (fun k => r19_Look.j2 k q heads (prL l) s (ksL l) (vsL l) false) _
          refine Ev.step (fun k => by rw [r19_Look.j2]) ?_
          refine ev_neg (by decide) ?_
          have hfit : ¬ (fitL q (ksL l) = false ∨ fitL q (vsL l) = false) := by rw [hk, hv]; simp
          have bad2 : s < 0 ∨ s > 31 → Ev (fun k => r19_Look.j3 k q heads (prL l) s (ksL l) (vsL l) true) (lookL q heads (ksL l) (vsL l) s) := by
            intro h
            unfold lookL lookE
            rw [if_neg h190, if_neg hfit, if_pos h, if_pos (by decide)]
            refine Ev.step (fun k => by rw [r19_Look.j3]) ?_
            exact ev_pos rfl (Ev.now _)
          by_cases c1 : s < 0
          · exact ev_pos c1 (bad2 (Or.inl c1))
          refine ev_neg c1 ?_
          by_cases c2 : s > 31
          · rw [decide_eq_true c2]
            exact bad2 (Or.inr c2)
          rw [decide_eq_false c2]
          refine Ev.step (fun k => by rw [r19_Look.j3]) ?_
          have h0 : lookE q heads (ksL l) (vsL l) s = 0 := by
            unfold lookE
            rw [if_neg h190, if_neg hfit, if_neg (by omega)]
          obtain ⟨⟨a1, a2, a3⟩, _, a4⟩ := lookE_0 h0
          obtain ⟨⟨b1, b2, b3, b4⟩, b5⟩ := fitL_ok hk
          unfold lookL
          rw [if_neg (by rw [h0]; simp)]
          refine ev_neg (by decide) (ev_neg (by omega) ?_)
          have hH : ((heads.toNat : Nat) : Int) = heads := by omega
          have hdiv : wrap64 ((q.length : Int) / heads) = ((q.length / heads.toNat : Nat) : Int) := by
            have e : (q.length : Int) / heads = ((q.length / heads.toNat : Nat) : Int) := by rw [Int.natCast_ediv, hH]
            have : q.length / heads.toNat ≤ q.length := Nat.div_le_self _ _
            rw [e, w64 (by omega) (by omega)]
          rw [hdiv]
          have h := ref_heads q (prL l) (ksL l) (vsL l) s _ heads.toNat a2 (by unfold ksL; rw [hpl, List.length_map]) (by unfold vsL; rw [hpl, List.length_map]) a3 hk hv a4 h8 _ 0 rfl (Nat.zero_le _)
          rw [hH] at h
          exact h
theorem ref_look (q : List Int) (heads : Int) (l : List P49) (s : Int) (hL : l.length * 48 ≤ 140737488351232) (h8 : ∀ r ∈ vsL l, I8 r) : Ev (fun k => r19_Look.f k q heads (prL l) s) (lookL q heads (ksL l) (vsL l) s) := by
  unfold r19_Look.f
  have bad : heads < 1 ∨ (q.length : Int) % heads ≠ 0 → Ev (fun k => r19_Look.j0 k q heads (prL l) s true) (lookL q heads (ksL l) (vsL l) s) := by
    intro h
    unfold lookL lookE
    rw [if_pos h, if_pos (by decide)]
    refine Ev.step (fun k => by rw [r19_Look.j0]) ?_
    exact ev_pos rfl (Ev.now _)
  by_cases c : heads < 1
  · exact ev_pos c (bad (Or.inl c))
  refine ev_neg c (ev_neg (by omega) ?_)
  by_cases c2 : (q.length : Int) % heads = 0
  · rw [show ((q.length : Int) % heads != 0) = false by rw [c2]; rfl]
    refine Ev.step (fun k => by rw [r19_Look.j0]) ?_
    exact ev_neg (by decide) (ref_look_l q heads l s hL h8 (by omega) c2 _ 0 rfl (Nat.zero_le _))
  · rw [show ((q.length : Int) % heads != 0) = true by rw [bne_iff_ne]; exact c2]
    exact bad (Or.inr c2)
set_option maxRecDepth 100000 in
theorem awake : Ev (fun k => w19_awake.f k) true := by
  have h : w19_awake.f 60 = some true := by kernel_rfl
  refine ⟨60, fun k hk => ?_⟩
  obtain ⟨d, rfl⟩ : ∃ d, k = 60 + d := ⟨k - 60, by omega⟩
  clear hk
  induction d with
  | zero => exact h
  | succ d ih => exact w19_awake.mono _ _ ih
theorem wf8 {x : Int} (h : (Lit.int .i8 x).wf = true) : -128 ≤ x ∧ x ≤ 127 := by
  have h' : (decide (IntKind.i8.min ≤ x) && decide (x ≤ IntKind.i8.max)) = true := h
  rw [Bool.and_eq_true, decide_eq_true_eq, decide_eq_true_eq] at h'
  exact h'
theorem g43 {y : S43} (h : G43 y) : y.f2.length * 48 ≤ 140737488351232 ∧ (∀ r ∈ vsL y.f2, I8 r) ∧ ∀ p ∈ y.f2, p.f0.length * 1 ≤ 140737488351232 ∧ p.f1.length * 1 ≤ 140737488351232 := by
  refine ⟨h.2.2.1, fun r hr => ?_, fun p hp => ⟨(h.2.2.2.2 p hp).1.1, (h.2.2.2.2 p hp).2.1⟩⟩
  obtain ⟨p, hp, rfl⟩ := List.mem_map.1 hr
  exact fun x hx => wf8 ((h.2.2.2.2 p hp).2.2.2 x hx)
theorem lookL_len (q : List Int) (heads : Int) (ks vs : List (List Int)) (s : Int) : (lookL q heads ks vs s).1.length ≤ 64 := by
  unfold lookL
  by_cases c : lookE q heads ks vs s = 0
  · rw [if_neg (by rw [c]; simp)]
    obtain ⟨⟨a1, a2, a3⟩, ⟨hk, _⟩, _⟩ := lookE_0 c
    obtain ⟨⟨b1, b2, b3, b4⟩, b5⟩ := fitL_ok hk
    show (headsL _ _ _ _ _ _).length ≤ 64
    rw [headsL_len, ← a2]; exact b4
  · rw [if_pos c]; exact Nat.zero_le _
end Go.Proofs.Ytmjepdhjginelaa.Pure
