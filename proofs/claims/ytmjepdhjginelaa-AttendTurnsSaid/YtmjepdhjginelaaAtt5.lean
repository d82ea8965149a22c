/- The order of the pairs has no part in what heads see. -/
import Derived.Test.YtmjepdhjginelaaAtt3
namespace Go.Proofs.Ytmjepdhjginelaa.Pure
set_option linter.unusedVariables false
open Go.RowKit Go.Proofs.YtmjepdhjginelaaW.PrintWords Go.Proofs.YtmjepdhjginelaaW.PrintLast Go.Proofs.YtmjepdhjginelaaW.PrintMore Go.Proofs.Ytmjepdhjginelaa.B Go.Proofs.Ytmjepdhjginelaa.St
theorem perm_max {l l' : List Int} (h : l.Perm l') : maxL l = maxL l' := by
  by_cases c : 0 < l.length
  · have c' : 0 < l'.length := by rw [← h.length_eq]; exact c
    have h1 := maxL_le l' _ (h.mem_iff.1 (maxL_mem l c))
    have h2 := maxL_le l _ (h.mem_iff.2 (maxL_mem l' c'))
    omega
  · have e : l = [] := List.length_eq_zero_iff.1 (by omega)
    subst e
    rw [h.nil_eq]
theorem perm_dot {α : Type} (f g : α → Int) {l l' : List α} (h : l.Perm l') : dotS (l.map f) (l.map g) = dotS (l'.map f) (l'.map g) := by
  induction h with
  | nil => rfl
  | cons x _ ih => show f x * g x + _ = f x * g x + _; rw [ih]
  | swap x y l => show f y * g y + (f x * g x + _) = f x * g x + (f y * g y + _); omega
  | trans _ _ h1 h2 => exact h1.trans h2
theorem perm_sum {α : Type} (f : α → Int) {l l' : List α} (h : l.Perm l') : (l.map f).sum = (l'.map f).sum := by
  induction h with
  | nil => rfl
  | cons x _ ih => rw [List.map_cons, List.map_cons, List.sum_cons, List.sum_cons, ih]
  | swap x y l => rw [List.map_cons, List.map_cons, List.map_cons, List.map_cons, List.sum_cons, List.sum_cons, List.sum_cons, List.sum_cons]; omega
  | trans _ _ h1 h2 => exact h1.trans h2
theorem perm_fit (q : List Int) {ks ks' : List (List Int)} (h : ks.Perm ks') : fitL q ks = fitL q ks' := by
  unfold fitL
  rw [h.length_eq]
  congr 1
  rw [Bool.eq_iff_iff, List.all_eq_true, List.all_eq_true]
  exact ⟨fun h1 x hx => h1 x (h.mem_iff.2 hx), fun h1 x hx => h1 x (h.mem_iff.1 hx)⟩
theorem perm_headO (q : List Int) {l l' : List P49} (h : l.Perm l') (s : Int) (a n : Nat) : headO q (ksL l) (vsL l) s a n = headO q (ksL l') (vsL l') s a n := by
  have hf : fitL (cutL a n q) ((ksL l).map (cutL a n)) = fitL (cutL a n q) ((ksL l').map (cutL a n)) := perm_fit _ ((h.map _).map _)
  have hS : ∃ F : P49 → Int, ((scoresL (cutL a n q) ((ksL l).map (cutL a n)) s).1 = l.map F ∧ (scoresL (cutL a n q) ((ksL l').map (cutL a n)) s).1 = l'.map F) ∨ ((scoresL (cutL a n q) ((ksL l).map (cutL a n)) s).1 = [] ∧ (scoresL (cutL a n q) ((ksL l').map (cutL a n)) s).1 = []) := by
    refine ⟨fun p => roundL (dotA 0 (cutL a n q) (cutL a n p.f0)) s.toNat, ?_⟩
    unfold scoresL
    rw [← hf]
    split
    · exact .inr ⟨rfl, rfl⟩
    · split
      · exact .inr ⟨rfl, rfl⟩
      · left
        unfold ksL
        simp only [List.map_map]
        exact ⟨rfl, rfl⟩
  obtain ⟨F, hS⟩ := hS
  unfold headO meansL
  refine List.map_congr_left fun c _ => ?_
  rcases hS with ⟨e1, e2⟩ | ⟨e1, e2⟩
  · rw [e1, e2]
    unfold weightsL meanL colL vsL
    rw [perm_max (h.map F)]
    simp only [List.map_map]
    generalize maxL (l'.map F) = M
    show (2 * dotS (l.map fun p => wOf M (F p)) (l.map fun p => (cutL a n p.f1).getD c 0) + (l.map fun p => wOf M (F p)).sum) / (2 * (l.map fun p => wOf M (F p)).sum) = (2 * dotS (l'.map fun p => wOf M (F p)) (l'.map fun p => (cutL a n p.f1).getD c 0) + (l'.map fun p => wOf M (F p)).sum) / (2 * (l'.map fun p => wOf M (F p)).sum)
    rw [perm_dot (fun p => wOf M (F p)) (fun p : P49 => (cutL a n p.f1).getD c 0) h, perm_sum (fun p => wOf M (F p)) h]
  · rw [e1, e2]
    rfl
theorem perm_look (q : List Int) (heads : Int) {l l' : List P49} (h : l.Perm l') (s : Int) : lookL q heads (ksL l) (vsL l) s = lookL q heads (ksL l') (vsL l') s := by
  have he : lookE q heads (ksL l) (vsL l) s = lookE q heads (ksL l') (vsL l') s := by
    unfold lookE
    rw [perm_fit q (show (ksL l).Perm (ksL l') from h.map _), perm_fit q (show (vsL l).Perm (vsL l') from h.map _)]
  have hh : ∀ n H, headsL q (ksL l) (vsL l) s n H = headsL q (ksL l') (vsL l') s n H := by
    intro n H
    induction H with
    | zero => rfl
    | succ H ih => rw [headsL, headsL, ih, perm_headO q h]
  unfold lookL
  rw [he, hh]
theorem turn_perm {α : Type} (l : List α) (k : Nat) : (l.drop k ++ l.take k).Perm l := by
  have h := List.perm_append_comm (l₁ := l.drop k) (l₂ := l.take k)
  rwa [List.take_append_drop] at h
end Go.Proofs.Ytmjepdhjginelaa.Pure
