/- The document's queue: where one goes in. -/
import Derived.Test.YtgolghimefageaaQWN
import Derived.Test.YtgolghimefageaaC1
namespace Go.Proofs.Ytgolghimefageaa.QW
set_option linter.unusedVariables false
open Go.Proofs Go.RowKit Go.Proofs.YtgolghimefageaaW.PrintWords Go.Proofs.YtgolghimefageaaW.PrintLast Go.Proofs.YtgolghimefageaaW.PrintMore Go.Proofs.Ytgolghimefageaa.St Go.Proofs.Ytgolghimefageaa.C
/-- An element as the document has it. -/
def doc (x : El) : S68 := ⟨x.k, ⟨#[]⟩, x.ticket⟩
def docs (E : List El) : List S68 := E.map doc
theorem docs_len (E : List El) : (docs E).length = E.length := List.length_map _
theorem docs_get (E : List El) (i : Nat) (h : i < E.length) : rd_T68 (docs E) (i : Int) = doc E[i]! := by
  unfold rd_T68 docs
  rw [Int.toNat_natCast, List.getD_eq_getElem?_getD, List.getElem?_map, List.getElem?_eq_getElem h, getElem!_pos E i h]
  rfl
theorem docs_drop (E : List El) (i : Nat) (h : i < E.length) : docs (E.drop i) = doc E[i]! :: docs (E.drop (i + 1)) := by
  unfold docs
  rw [getElem!_pos E i h, ← List.map_cons, List.getElem_cons_drop]
theorem w64 {x : Int} (h1 : -9223372036854775808 ≤ x) (h2 : x < 9223372036854775808) : wrap64 x = x := by unfold wrap64; omega
theorem in_done (E : List El) (hE : E.length ≤ 65536) (y : S68) : ∀ (d i : Nat) (out : List S68), E.length - i = d → i ≤ E.length → out.length + d ≤ 65537 → ∀ k, d + 1 ≤ k → r06_in.l0 k out true (docs E) (E.length : Int) (i : Int) y.f0 y.f1 y.f2 = some (out ++ docs (E.drop i))
  | d, i, out, hd, hi, ho, 0, hk => by omega
  | d, i, out, hd, hi, ho, k + 1, hk => by
    rw [r06_in.l0]
    by_cases c : i < E.length
    · have e1 : (⟨(doc E[i]!).f0, (doc E[i]!).f1, (doc E[i]!).f2⟩ : S68) = doc E[i]! := rfl
      rw [if_pos (by omega), if_pos (by omega), docs_len, if_pos (by omega), if_pos rfl, if_pos (by omega), w64 (by omega) (by omega), docs_get E i c, e1, docs_drop E i c]
      have h := in_done E hE y (E.length - (i + 1)) (i + 1) (out ++ [doc E[i]!]) rfl (by omega) (by rw [List.length_append, List.length_singleton]; omega) k (by omega)
      rw [List.append_assoc] at h
      exact h
    · obtain rfl : i = E.length := by omega
      rw [if_neg (by omega), if_pos rfl, List.drop_length]
      simp [docs]
theorem in_ins (E : List El) (hE : E.length ≤ 65536) (y : El) (hy : y.v = y.v) (hc : ∀ x ∈ E, x.came < y.came) : ∀ (d i : Nat) (out : List S68), E.length - i = d → i ≤ E.length → out.length + d ≤ 65536 → ∀ k, d + 1 ≤ k → r06_in.l0 k out false (docs E) (E.length : Int) (i : Int) y.k ⟨#[]⟩ y.ticket = some (out ++ docs (ins (E.drop i) y))
  | d, i, out, hd, hi, ho, 0, hk => by omega
  | d, i, out, hd, hi, ho, k + 1, hk => by
    rw [r06_in.l0]
    by_cases c : i < E.length
    · have e1 : (⟨(doc E[i]!).f0, (doc E[i]!).f1, (doc E[i]!).f2⟩ : S68) = doc E[i]! := rfl
      have hmem : E[i]! ∈ E := by rw [getElem!_pos E i c]; exact List.getElem_mem c
      have hdrop : E.drop i = E[i]! :: E.drop (i + 1) := by rw [getElem!_pos E i c, List.getElem_cons_drop]
      rw [if_pos (by omega), if_pos (by omega), docs_len, if_pos (by omega), if_neg (by decide), docs_get E i c, e1]
      by_cases ck : y.k < (doc E[i]!).f0
      · have hna : ¬ Ahead E[i]! y := by
          have hk : y.k < E[i]!.k := ck
          rintro (h | ⟨h, _⟩)
          · have h2 : E[i]!.k < y.k := of_decide_eq_true h
            omega
          · omega
        have hin : ins (E.drop i) y = y :: E.drop i := by
          rw [hdrop]
          show (if Ahead E[i]! y then _ else _) = _
          rw [if_neg hna]
        rw [if_pos ck, if_pos (by omega), Option.bind_some, if_pos (by rw [List.length_append, List.length_singleton]; omega), w64 (by omega) (by omega), hin]
        have h := in_done E hE (doc y) (E.length - (i + 1)) (i + 1) (out ++ [doc y] ++ [doc E[i]!]) rfl (by omega) (by simp only [List.length_append, List.length_singleton]; omega) k (by omega)
        have e2 : docs (y :: E.drop i) = doc y :: doc E[i]! :: docs (E.drop (i + 1)) := by rw [← docs_drop E i c]; rfl
        rw [e2, show out ++ doc y :: doc E[i]! :: docs (E.drop (i + 1)) = out ++ [doc y] ++ [doc E[i]!] ++ docs (E.drop (i + 1)) by simp]
        exact h
      · have ha : Ahead E[i]! y := by
          have hk : ¬ y.k < E[i]!.k := ck
          by_cases e : E[i]!.k = y.k
          · exact .inr ⟨e, hc _ hmem⟩
          · exact .inl (decide_eq_true (by omega))
        have hin : ins (E.drop i) y = E[i]! :: ins (E.drop (i + 1)) y := by
          rw [hdrop]
          show (if Ahead E[i]! y then _ else _) = _
          rw [if_pos ha]
        rw [if_neg ck, if_pos (by omega), w64 (by omega) (by omega), hin]
        have h := in_ins E hE y rfl hc (E.length - (i + 1)) (i + 1) (out ++ [doc E[i]!]) rfl (by omega) (by rw [List.length_append, List.length_singleton]; omega) k (by omega)
        rw [List.append_assoc] at h
        exact h
    · obtain rfl : i = E.length := by omega
      rw [if_neg (by omega), if_neg (by decide), if_pos (by omega), List.drop_length]
      rfl
theorem ref_put (E : List El) (hE : E.length < 65536) (y : El) (hc : ∀ x ∈ E, x.came < y.came) (hn : 0 ≤ y.ticket ∧ y.ticket < 4611686018427387904) : r06_Put.f (E.length + 1) 65536 (docs E) y.ticket y.k ⟨#[]⟩ = some (65536, docs (ins E y), y.ticket + 1, y.ticket, 0) := by
  rw [r06_Put.f, docs_len, if_neg (by omega), r06_in.f, docs_len]
  have h := in_ins E (by omega) y rfl hc E.length 0 [] (by omega) (Nat.zero_le _) (by simp; omega) (E.length + 1) (by omega)
  rw [List.drop_zero] at h
  rw [show ((0 : Nat) : Int) = 0 from rfl] at h
  rw [h, Option.bind_some, w64 (by omega) (by omega), w64 (by omega) (by omega)]
  simp
theorem ref_full (E : List El) (hE : 65536 ≤ E.length) (k : Nat) (t x : Int) : r06_Put.f k 65536 (docs E) t x ⟨#[]⟩ = some (65536, docs E, t, 0, 61) := by
  rw [r06_Put.f, docs_len, if_pos (by omega)]
end Go.Proofs.Ytgolghimefageaa.QW
