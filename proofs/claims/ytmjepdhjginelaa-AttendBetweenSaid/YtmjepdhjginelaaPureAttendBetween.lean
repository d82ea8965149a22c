/- AttendBetween: no answer is less than the least or greater than the greatest of its column. -/
import Derived.Test.YtmjepdhjginelaaStmtAttendBetween
import Derived.Test.YtmjepdhjginelaaAtt4
namespace Go.Proofs.Ytmjepdhjginelaa.Pure
set_option linter.unusedVariables false
open Go.RowKit Go.Proofs.YtmjepdhjginelaaW.PrintWords Go.Proofs.YtmjepdhjginelaaW.PrintLast Go.Proofs.YtmjepdhjginelaaW.PrintMore Go.Proofs.Ytmjepdhjginelaa.B Go.Proofs.Ytmjepdhjginelaa.St
theorem btw_in (A : List Int) (l : List P49) (a b : Int) (hL : l.length * 48 ≤ 140737488351232) (c : Nat) (hc : c < A.length) (hA : A.length ≤ 64) (hcol : ∀ p ∈ l, p.f1.length = A.length)
    (w : List Int) (hw : WOK w) (hwl : w.length = (vsL l).length) (hg : A.getD c 0 = meanL w (colL (vsL l) c)) (hk : Ev (fun k => w19_AttendBetween.l0 k A ((c + 1 : Nat) : Int) a b l) true) : ∀ (d i : Nat) (lo hi : Int), l.length - i = d → i ≤ l.length → (∀ p ∈ l.take i, lo ≤ p.f1.getD c 0 ∧ p.f1.getD c 0 ≤ hi) →
    Ev (fun k => w19_AttendBetween.l1 k A (c : Int) lo hi (i : Int) a b l) true
  | d, i, lo, hi, hd, hi', hb => by
    refine Ev.step (fun k => by rw [w19_AttendBetween.l1]) ?_
    by_cases q : i < l.length
    · obtain ⟨d, rfl⟩ : ∃ e, d = e + 1 := ⟨d - 1, by omega⟩
      have hlen := hcol _ (List.getElem_mem q)
      rw [rd49, getD_map49 l i q, rd_nat, w1 i (by omega)]
      have hgo : ∀ lo' hi', lo' ≤ lo → hi ≤ hi' → lo' ≤ l[i].f1.getD c 0 → l[i].f1.getD c 0 ≤ hi' → Ev (fun k => w19_AttendBetween.l1 k A (c : Int) lo' hi' ((i + 1 : Nat) : Int) a b l) true := by
        intro lo' hi' h1 h2 h3 h4
        refine btw_in A l a b hL c hc hA hcol w hw hwl hg hk d (i + 1) lo' hi' (by omega) (by omega) (fun p hp => ?_)
        rw [List.take_succ_eq_append_getElem q] at hp
        rcases List.mem_append.1 hp with hp | hp
        · have := hb p hp; omega
        · rw [List.mem_singleton.1 hp]; omega
      refine ev_pos (by omega) (ev_pos (by omega) (ev_pos (by omega) (ev_pos (by omega) ?_)))
      by_cases c1 : l[i].f1.getD c 0 < lo
      · refine ev_pos c1 ?_
        by_cases c2 : l[i].f1.getD c 0 > hi
        · exact ev_pos c2 (hgo _ _ (by omega) (by omega) (by omega) (by omega))
        · exact ev_neg c2 (hgo _ _ (by omega) (by omega) (by omega) (by omega))
      · refine ev_neg c1 ?_
        by_cases c2 : l[i].f1.getD c 0 > hi
        · exact ev_pos c2 (hgo _ _ (by omega) (by omega) (by omega) (by omega))
        · exact ev_neg c2 (hgo _ _ (by omega) (by omega) (by omega) (by omega))
    · obtain rfl : i = l.length := by omega
      rw [List.take_length] at hb
      have hm := mean_between lo hi w (colL (vsL l) c) (by unfold colL; rw [List.length_map]; exact hwl) hw (fun y hy => by
        obtain ⟨r, hr, rfl⟩ := List.mem_map.1 hy
        obtain ⟨p, hp, rfl⟩ := List.mem_map.1 hr
        exact hb p hp)
      rw [← hg] at hm
      rw [rd_nat A c, w1 c (by omega)]
      exact ev_neg (by omega) (ev_pos (by omega) (ev_pos (by omega) (ev_neg (by omega) (ev_neg (by omega) hk))))
theorem btw_l (A : List Int) (l : List P49) (a b : Int) (hL : l.length * 48 ≤ 140737488351232) (h1 : 1 ≤ l.length) (hA : A.length ≤ 64) (hcol : ∀ p ∈ l, p.f1.length = A.length)
    (hg : ∀ c, c < A.length → ∃ w, WOK w ∧ w.length = (vsL l).length ∧ A.getD c 0 = meanL w (colL (vsL l) c)) : ∀ (d c : Nat), A.length - c = d → c ≤ A.length →
    Ev (fun k => w19_AttendBetween.l0 k A (c : Int) a b l) true
  | d, c, hd, hc => by
    refine Ev.step (fun k => by rw [w19_AttendBetween.l0]) ?_
    by_cases q : c < A.length
    · obtain ⟨d, rfl⟩ : ∃ e, d = e + 1 := ⟨d - 1, by omega⟩
      obtain ⟨w, hw, hwl, hg1⟩ := hg c q
      have hk := btw_l A l a b hL h1 hA hcol hg d (c + 1) (by omega) (by omega)
      have h0 : (rd_T49 l 0).f1.length = A.length := by
        have e : rd_T49 l 0 = l[0] := by rw [show (0 : Int) = ((0 : Nat) : Int) from rfl, rd49, getD_map49 l 0 (by omega)]
        rw [e]; exact hcol _ (List.getElem_mem _)
      exact ev_pos (by omega) (ev_pos (by omega) (ev_pos (by omega) (ev_pos (by omega) (btw_in A l a b hL c q hA hcol w hw hwl hg1 hk _ 0 _ _ rfl (Nat.zero_le _) (fun p hp => by rw [List.take_zero] at hp; exact (List.not_mem_nil hp).elim)))))
    · exact ev_neg (by omega) (Ev.now _)
theorem AttendBetween : w19_AttendBetween.Plain := by
  intro q y hq hy
  obtain ⟨hL, h8, hG⟩ := g43 hy
  have hl := lookL_len q y.f0 (ksL y.f2) (vsL y.f2) y.f1
  refine ev_rounds ?_
  unfold w19_AttendBetween.f
  refine Ev.bind (own_look q y.f0 y.f2 y.f1 hL h8) (Ev.bind (pairs_ev y.f2 hL hG) (Ev.bind (ref_look q y.f0 y.f2 y.f1 hL h8) (Ev.bind awake (ev_pos rfl ?_))))
  rw [show ((lookL q y.f0 (ksL y.f2) (vsL y.f2) y.f1).2 != (lookL q y.f0 (ksL y.f2) (vsL y.f2) y.f1).2) = false by rw [bne_self_eq_false]]
  refine Ev.step (fun k => by rw [w19_AttendBetween.j0]) ?_
  refine ev_neg (by decide) ?_
  by_cases h0 : lookE q y.f0 (ksL y.f2) (vsL y.f2) y.f1 = 0
  · have hg := look_get q y.f0 (ksL y.f2) (vsL y.f2) y.f1 h0 (by unfold ksL vsL; rw [List.length_map, List.length_map]) h8
    obtain ⟨⟨a1, a2, a3⟩, ⟨hk, hv⟩, a4⟩ := lookE_0 h0
    have hlq : (lookL q y.f0 (ksL y.f2) (vsL y.f2) y.f1).1.length = q.length := by
      unfold lookL
      rw [if_neg (by rw [h0]; simp)]
      show (headsL _ _ _ _ _ _).length = _
      rw [headsL_len]; exact a2.symm
    have hl2 : (lookL q y.f0 (ksL y.f2) (vsL y.f2) y.f1).2 = 0 := by
      unfold lookL
      rw [if_neg (by rw [h0]; simp)]
    obtain ⟨⟨b1, b2, b3, b4⟩, b5⟩ := fitL_ok hv
    have hvl : (vsL y.f2).length = y.f2.length := by unfold vsL; rw [List.length_map]
    generalize (lookL q y.f0 (ksL y.f2) (vsL y.f2) y.f1).1 = A at *
    refine ev_pos hl2 (ev_pos (by omega) ?_)
    exact btw_l A y.f2 _ _ hL (by omega) hl (fun p hp => by rw [hlq]; exact b5 _ (List.mem_map_of_mem hp)) (fun c hc => hg c (by omega)) _ 0 rfl (Nat.zero_le _)
  · have e : lookL q y.f0 (ksL y.f2) (vsL y.f2) y.f1 = ([], lookE q y.f0 (ksL y.f2) (vsL y.f2) y.f1) := by unfold lookL; rw [if_pos h0]
    rw [e]
    exact ev_neg h0 (Ev.now _)
end Go.Proofs.Ytmjepdhjginelaa.Pure
