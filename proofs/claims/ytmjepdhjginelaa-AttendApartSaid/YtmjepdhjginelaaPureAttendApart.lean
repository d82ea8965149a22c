/- AttendApart: what stands in one head has no part in another one's answer. -/
import Derived.Test.YtmjepdhjginelaaStmtAttendApart
import Derived.Test.YtmjepdhjginelaaAtt4
namespace Go.Proofs.Ytmjepdhjginelaa.Pure
set_option linter.unusedVariables false
open Go.RowKit Go.Proofs.YtmjepdhjginelaaW.PrintWords Go.Proofs.YtmjepdhjginelaaW.PrintLast Go.Proofs.YtmjepdhjginelaaW.PrintMore Go.Proofs.Ytmjepdhjginelaa.B Go.Proofs.Ytmjepdhjginelaa.St
def cutP (a n : Nat) (p : P49) : P49 := ⟨cutL a n p.f0, cutL a n p.f1⟩
theorem apart_l (q A : List Int) (heads s : Int) (l : List P49) (hL : l.length * 48 ≤ 140737488351232) (h8 : ∀ r ∈ vsL l, I8 r) (a n : Nat) (hk : fitL q (ksL l) = true) (hv : fitL q (vsL l) = true) (hs : 0 ≤ s ∧ s ≤ 31) (hn : 1 ≤ n) (ha : a + n ≤ q.length)
    (hA : A.length = q.length) (hcut : cutL a n A = headO q (ksL l) (vsL l) s a n) : ∀ (d i : Nat), l.length - i = d → i ≤ l.length →
    Ev (fun k => w19_AttendApart.l0 k q A (a : Int) ((a + n : Nat) : Int) ((l.take i).map (cutP a n)) (i : Int) heads s l) true
  | d, i, hd, hi => by
    obtain ⟨⟨b1, b2, b3, b4⟩, b5⟩ := fitL_ok hk
    obtain ⟨⟨c1, c2, c3, c4⟩, c5⟩ := fitL_ok hv
    refine Ev.step (fun k => by rw [w19_AttendApart.l0]) ?_
    rw [Int.toNat_natCast, Int.toNat_natCast]
    by_cases c : i < l.length
    · obtain ⟨d, rfl⟩ : ∃ e, d = e + 1 := ⟨d - 1, by omega⟩
      have hgo := apart_l q A heads s l hL h8 a n hk hv hs hn ha hA hcut d (i + 1) (by omega) (by omega)
      rw [List.take_succ_eq_append_getElem c, List.map_append, List.map_cons, List.map_nil] at hgo
      have lk : l[i].f0.length = q.length := b5 _ (List.mem_map_of_mem (List.getElem_mem c))
      have lv : l[i].f1.length = q.length := c5 _ (List.mem_map_of_mem (List.getElem_mem c))
      have e0 : ((l[i].f0.take (a + n)).drop a).length = n := cutL_len a n _ (by omega)
      have e1 : ((l[i].f1.take (a + n)).drop a).length = n := cutL_len a n _ (by omega)
      rw [rd49, getD_map49 l i c, w1 i (by omega)]
      refine ev_pos (by omega) (ev_some (ev_pos (by omega) (ev_pos (by omega) (ev_pos (by omega) (ev_pos (by omega) (ev_pos (by rw [List.length_nil]; omega) (ev_some (ev_pos (by omega) (ev_pos (by rw [List.length_nil]; omega) (ev_pos ?_ ?_))))))))))
      · rw [List.length_map, List.length_take]; omega
      · rw [List.nil_append, List.nil_append]
        exact hgo
    · obtain rfl : i = l.length := by omega
      rw [List.take_length]
      have e0 : ((q.take (a + n)).drop a).length = n := cutL_len a n _ (by omega)
      refine ev_neg (by omega) (ev_some (ev_pos (by omega) (ev_pos (by omega) (ev_pos (by omega) (ev_pos (by rw [List.length_nil]; omega) ?_)))))
      rw [List.nil_append]
      have ek : ksL (l.map (cutP a n)) = (ksL l).map (cutL a n) := by unfold ksL; rw [List.map_map, List.map_map]; rfl
      have ev : vsL (l.map (cutP a n)) = (vsL l).map (cutL a n) := by unfold vsL; rw [List.map_map, List.map_map]; rfl
      have h := own_look (cutL a n q) 1 (l.map (cutP a n)) s (by rw [List.length_map]; exact hL) (by rw [ev]; exact cut_rows_i8 a n _ h8)
      rw [ek, ev, look_one q (ksL l) (vsL l) s a n hk hv hs hn ha] at h
      have hol := headO_len q (ksL l) (vsL l) s a n
      refine Ev.bind h (ev_pos rfl (ev_pos (by omega) (ev_pos (by omega) ?_)))
      have hrow := rows_ev (headO q (ksL l) (vsL l) s a n) (by omega)
      refine Ev.bind (a := true) ?_ (Ev.now _)
      rw [← hcut] at hrow ⊢
      exact hrow
theorem AttendApart : w19_AttendApart.Plain := by
  intro q y head hq hy hh
  obtain ⟨hL, h8, hG⟩ := g43 hy
  refine ev_rounds ?_
  unfold w19_AttendApart.f
  refine Ev.bind (own_look q y.f0 y.f2 y.f1 hL h8) (Ev.bind (pairs_ev y.f2 hL hG) (Ev.bind (ref_look q y.f0 y.f2 y.f1 hL h8) (Ev.bind awake (ev_pos rfl ?_))))
  rw [show ((lookL q y.f0 (ksL y.f2) (vsL y.f2) y.f1).2 != (lookL q y.f0 (ksL y.f2) (vsL y.f2) y.f1).2) = false by rw [bne_self_eq_false]]
  refine Ev.step (fun k => by rw [w19_AttendApart.j0]) ?_
  refine ev_neg (by decide) ?_
  have yes : ∀ (A : List Int), Ev (fun k => w19_AttendApart.j1 k q head A true y.f0 y.f1 y.f2) true := by
    intro A
    refine Ev.step (fun k => by rw [w19_AttendApart.j1]) ?_
    exact ev_pos rfl (Ev.now _)
  by_cases h0 : lookE q y.f0 (ksL y.f2) (vsL y.f2) y.f1 = 0
  · obtain ⟨⟨a1, a2, a3⟩, ⟨hk, hv⟩, a4⟩ := lookE_0 h0
    have el : lookL q y.f0 (ksL y.f2) (vsL y.f2) y.f1 = (headsL q (ksL y.f2) (vsL y.f2) y.f1 (q.length / y.f0.toNat) y.f0.toNat, 0) := by
      unfold lookL
      rw [if_neg (by rw [h0]; simp)]
    rw [el]
    refine ev_pos rfl ?_
    by_cases c1 : head < 0
    · exact ev_pos c1 (yes _)
    refine ev_neg c1 ?_
    by_cases c2 : head ≥ y.f0
    · rw [decide_eq_true c2]
      exact yes _
    rw [decide_eq_false c2]
    obtain ⟨⟨b1, b2, b3, b4⟩, b5⟩ := fitL_ok hk
    refine Ev.step (fun k => by rw [w19_AttendApart.j1]) ?_
    refine ev_neg (by decide) (ev_neg (by omega) ?_)
    have hH : ((y.f0.toNat : Nat) : Int) = y.f0 := by omega
    have hh' : ((head.toNat : Nat) : Int) = head := by omega
    have hdiv : wrap64 ((q.length : Int) / y.f0) = ((q.length / y.f0.toNat : Nat) : Int) := by
      have e : (q.length : Int) / y.f0 = ((q.length / y.f0.toNat : Nat) : Int) := by rw [Int.natCast_ediv, hH]
      have : q.length / y.f0.toNat ≤ q.length := Nat.div_le_self _ _
      rw [e, w64 (by omega) (by omega)]
    rw [hdiv]
    generalize q.length / y.f0.toNat = n at *
    have hlt : head.toNat < y.f0.toNat := by omega
    obtain ⟨e1, e2, e3⟩ := where_h y.f0.toNat n head.toNat (by omega) hlt a3
    have hp := place y.f0.toNat n head.toNat hlt
    rw [hh'] at e1 e2
    rw [e1, e2]
    exact apart_l q _ y.f0 y.f1 y.f2 hL h8 (head.toNat * n) n hk hv a4 a3 (by omega) (by rw [headsL_len]; exact a2.symm) (headsL_cut q _ _ _ n head.toNat y.f0.toNat hlt) _ 0 rfl (Nat.zero_le _)
  · have e : lookL q y.f0 (ksL y.f2) (vsL y.f2) y.f1 = ([], lookE q y.f0 (ksL y.f2) (vsL y.f2) y.f1) := by unfold lookL; rw [if_pos h0]
    rw [e]
    exact ev_neg h0 (yes _)
end Go.Proofs.Ytmjepdhjginelaa.Pure
