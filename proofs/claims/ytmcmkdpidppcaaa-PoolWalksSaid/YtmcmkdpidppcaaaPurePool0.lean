/- The free places of a pool, falling: the plain law, no program in sight. -/
import Derived.Test.YtmcmkdpidppcaaaPoolF
namespace Go.Proofs.Ytmcmkdpidppcaaa.St
set_option linter.unusedVariables false
/-- F lists the free places of S, falling. -/
def FreeOf (S : List (Bool × Int)) (F : List Int) : Prop := F.Pairwise (· > ·) ∧ ∀ x, x ∈ F ↔ ∃ j : Nat, x = (j : Int) ∧ j < S.length ∧ (S.getD j (false, 0)).1 = false
theorem desc_eq : ∀ (a b : List Int), a.Pairwise (· > ·) → b.Pairwise (· > ·) → (∀ x, x ∈ a ↔ x ∈ b) → a = b
  | [], [], _, _, _ => rfl
  | [], y :: b, _, _, h => absurd ((h y).2 List.mem_cons_self) (List.not_mem_nil)
  | x :: a, [], _, _, h => absurd ((h x).1 List.mem_cons_self) (List.not_mem_nil)
  | x :: a, y :: b, ha, hb, h => by
    obtain ⟨ha1, ha2⟩ := List.pairwise_cons.1 ha
    obtain ⟨hb1, hb2⟩ := List.pairwise_cons.1 hb
    have exy : x = y := by
      rcases List.mem_cons.1 ((h x).1 List.mem_cons_self) with e | e
      · exact e
      · rcases List.mem_cons.1 ((h y).2 List.mem_cons_self) with e2 | e2
        · exact e2.symm
        · have := hb1 x e
          have := ha1 y e2
          omega
    subst exy
    rw [desc_eq a b ha2 hb2 fun z => ⟨fun hz => by
      rcases List.mem_cons.1 ((h z).1 (List.mem_cons_of_mem _ hz)) with e | e
      · have := ha1 z hz; omega
      · exact e, fun hz => by
      rcases List.mem_cons.1 ((h z).2 (List.mem_cons_of_mem _ hz)) with e | e
      · have := hb1 z hz; omega
      · exact e⟩]
theorem getD_set (S : List (Bool × Int)) (k j : Nat) (s : Bool × Int) (hk : k < S.length) : (S.set k s).getD j (false, 0) = if j = k then s else S.getD j (false, 0) := by
  rw [List.getD_eq_getElem?_getD, List.getD_eq_getElem?_getD, List.getElem?_set]
  by_cases c : j = k
  · subst c; rw [if_pos rfl, if_pos hk, if_pos rfl]; rfl
  · rw [if_neg (Ne.symm c), if_neg c]
theorem FreeOf.new (n : Nat) : FreeOf (List.replicate n (false, 0)) (fallTo n 0) := by
  constructor
  · unfold fallTo
    rw [List.pairwise_map]
    refine List.Pairwise.imp ?_ List.pairwise_lt_range
    intro a b h
    show (n : Int) - 1 - (a : Int) > (n : Int) - 1 - (b : Int)
    omega
  · intro x
    unfold fallTo
    rw [List.length_replicate]
    constructor
    · intro h
      obtain ⟨j, hj, rfl⟩ := List.mem_map.1 h
      have hj := List.mem_range.1 hj
      refine ⟨n - 1 - j, by omega, by omega, ?_⟩
      rw [List.getD_eq_getElem?_getD, List.getElem?_replicate]
      split <;> rfl
    · rintro ⟨j, rfl, hj, _⟩
      exact List.mem_map.2 ⟨n - 1 - j, List.mem_range.2 (by omega), by omega⟩
theorem FreeOf.full {S : List (Bool × Int)} (h : FreeOf S []) (j : Nat) (hj : j < S.length) : (S.getD j (false, 0)).1 = true := by
  cases e : (S.getD j (false, 0)).1 with
  | true => rfl
  | false => exact absurd ((h.2 (j : Int)).2 ⟨j, rfl, hj, e⟩) List.not_mem_nil
theorem FreeOf.take {S : List (Bool × Int)} {F : List Int} {i v : Int} (h : FreeOf S (F ++ [i])) : ∃ k : Nat, i = (k : Int) ∧ k < S.length ∧ (S.getD k (false, 0)).1 = false ∧ (∀ j, j < k → (S.getD j (false, 0)).1 = true) ∧ FreeOf (S.set k (true, v)) F := by
  obtain ⟨k, rfl, hk, hf⟩ := (h.2 i).1 (List.mem_append_right _ List.mem_cons_self)
  obtain ⟨p1, _, p3⟩ := List.pairwise_append.1 h.1
  refine ⟨k, rfl, hk, hf, fun j hj => ?_, p1, fun x => ⟨fun hx => ?_, ?_⟩⟩
  · cases e : (S.getD j (false, 0)).1 with
    | true => rfl
    | false =>
      rcases List.mem_append.1 ((h.2 (j : Int)).2 ⟨j, rfl, by omega, e⟩) with hm | hm
      · have := p3 _ hm _ List.mem_cons_self; omega
      · have := List.mem_singleton.1 hm; omega
  · obtain ⟨j, rfl, hj, e⟩ := (h.2 x).1 (List.mem_append_left _ hx)
    have hne : j ≠ k := by
      have := p3 _ hx _ List.mem_cons_self
      omega
    exact ⟨j, rfl, by rw [List.length_set]; exact hj, by rw [getD_set S k j _ hk, if_neg hne]; exact e⟩
  · rintro ⟨j, rfl, hj, e⟩
    rw [List.length_set] at hj
    rw [getD_set S k j _ hk] at e
    by_cases c : j = k
    · rw [if_pos c] at e; cases e
    · rw [if_neg c] at e
      rcases List.mem_append.1 ((h.2 (j : Int)).2 ⟨j, rfl, hj, e⟩) with hm | hm
      · exact hm
      · have := List.mem_singleton.1 hm; omega
theorem FreeOf.range {S : List (Bool × Int)} {F : List Int} (h : FreeOf S F) (j : Nat) (hj : j < F.length) : 0 ≤ F.getD j 0 ∧ F.getD j 0 < (S.length : Int) := by
  have hm : F.getD j 0 ∈ F := by rw [List.getD_eq_getElem?_getD, List.getElem?_eq_getElem hj]; exact List.getElem_mem hj
  obtain ⟨k, e, hk, _⟩ := (h.2 _).1 hm
  rw [e]
  omega
theorem FreeOf.falls {S : List (Bool × Int)} {F : List Int} (h : FreeOf S F) (i j : Nat) (hij : i < j) (hj : j < F.length) : F.getD j 0 < F.getD i 0 := by
  have hp := List.pairwise_iff_getElem.1 h.1 i j (by omega) hj hij
  rw [List.getD_eq_getElem?_getD, List.getElem?_eq_getElem hj, List.getD_eq_getElem?_getD, List.getElem?_eq_getElem (by omega)]
  exact hp
theorem FreeOf.give {S : List (Bool × Int)} {F : List Int} {k p : Nat} (h : FreeOf S F) (hk : k < S.length) (ht : (S.getD k (false, 0)).1 = true) (hp : p ≤ F.length) (hlo : ∀ j, j < p → (k : Int) < F.getD j 0) (hhi : ∀ j, p ≤ j → j < F.length → F.getD j 0 ≤ (k : Int)) : FreeOf (S.set k (false, 0)) (F.take p ++ (k : Int) :: F.drop p) := by
  have hnk : (k : Int) ∉ F := fun hm => by
    obtain ⟨j, e, _, hf⟩ := (h.2 _).1 hm
    have : j = k := by omega
    subst this
    rw [ht] at hf
    cases hf
  have hT : ∀ x ∈ F.take p, (k : Int) < x := fun x hx => by
    obtain ⟨j, hj, rfl⟩ := List.getElem_of_mem hx
    rw [List.length_take] at hj
    have := hlo j (by omega)
    rw [List.getD_eq_getElem?_getD, List.getElem?_eq_getElem (by omega)] at this
    rw [List.getElem_take]
    exact this
  have hD : ∀ x ∈ F.drop p, x < (k : Int) := fun x hx => by
    have hxF := List.mem_of_mem_drop hx
    obtain ⟨j, hj, rfl⟩ := List.getElem_of_mem hx
    rw [List.length_drop] at hj
    have := hhi (p + j) (by omega) (by omega)
    rw [List.getD_eq_getElem?_getD, List.getElem?_eq_getElem (by omega)] at this
    rw [List.getElem_drop] at hxF ⊢
    have hne : F[p + j] ≠ (k : Int) := fun e => hnk (e ▸ hxF)
    have h2 : F[p + j] ≤ (k : Int) := this
    omega
  have hpw : (F.take p ++ F.drop p).Pairwise (· > ·) := by rw [List.take_append_drop]; exact h.1
  obtain ⟨q1, q2, q3⟩ := List.pairwise_append.1 hpw
  constructor
  · refine List.pairwise_append.2 ⟨q1, List.pairwise_cons.2 ⟨fun x hx => hD x hx, q2⟩, fun a ha c hc => ?_⟩
    rcases List.mem_cons.1 hc with rfl | hc
    · exact hT a ha
    · exact q3 a ha c hc
  · intro x
    have hsplit : x ∈ F.take p ++ (k : Int) :: F.drop p ↔ x = (k : Int) ∨ x ∈ F := by
      rw [List.mem_append, List.mem_cons]
      constructor
      · rintro (hx | hx | hx)
        · exact .inr (List.mem_of_mem_take hx)
        · exact .inl hx
        · exact .inr (List.mem_of_mem_drop hx)
      · rintro (hx | hx)
        · exact .inr (.inl hx)
        · rw [← List.take_append_drop p F] at hx
          rcases List.mem_append.1 hx with hx | hx
          · exact .inl hx
          · exact .inr (.inr hx)
    rw [hsplit, List.length_set]
    constructor
    · rintro (rfl | hx)
      · exact ⟨k, rfl, hk, by rw [getD_set S k k _ hk, if_pos rfl]⟩
      · obtain ⟨j, rfl, hj, e⟩ := (h.2 x).1 hx
        exact ⟨j, rfl, hj, by
          rw [getD_set S k j _ hk]
          split
          · rfl
          · exact e⟩
    · rintro ⟨j, rfl, hj, e⟩
      by_cases c : j = k
      · exact .inl (by rw [c])
      · rw [getD_set S k j _ hk, if_neg c] at e
        exact .inr ((h.2 _).2 ⟨j, rfl, hj, e⟩)
theorem FreeOf.setTaken {S : List (Bool × Int)} {F : List Int} {k : Nat} {v : Int} (h : FreeOf S F) (hk : k < S.length) (ht : (S.getD k (false, 0)).1 = true) : FreeOf (S.set k (true, v)) F := by
  refine ⟨h.1, fun x => (h.2 x).trans ⟨?_, ?_⟩⟩
  · rintro ⟨j, rfl, hj, e⟩
    refine ⟨j, rfl, by rw [List.length_set]; exact hj, ?_⟩
    rw [getD_set S k j _ hk]
    by_cases c : j = k
    · subst c; rw [ht] at e; cases e
    · rw [if_neg c]; exact e
  · rintro ⟨j, rfl, hj, e⟩
    rw [List.length_set] at hj
    rw [getD_set S k j _ hk] at e
    by_cases c : j = k
    · rw [if_pos c] at e; cases e
    · rw [if_neg c] at e; exact ⟨j, rfl, hj, e⟩
end Go.Proofs.Ytmcmkdpidppcaaa.St
