/- The order of a list: what the stable sort of its places is, in plain Lean. -/
import Derived.Test.YtjcfhgpaipbedaaPlaces
namespace Go.Proofs.Ytjcfhgpaipbedaa.St
set_option linter.unusedVariables false
set_option linter.unusedSimpArgs false
open Go.Sort

/-- .. as natural numbers. -/
def placesN (cf : Nat → Nat → Int) : Nat → List Nat
  | 0 => []
  | m + 1 => (stable (fun x y : Fin (m + 1) => decide (cf x.val y.val < 0)) (Array.ofFn fun i : Fin (m + 1) => i)).toList.map fun x => x.val
theorem places_eq (cf : Nat → Nat → Int) (n : Nat) : places cf n = (placesN cf n).map fun x : Nat => (x : Int) := by
  cases n with
  | zero => rfl
  | succ m => simp [places, placesN]

theorem placesN_spec (cf : Nat → Nat → Int) (n : Nat) (T : Nat → Nat → Prop) (hi : ∀ x, ¬ T x x) (ht : ∀ x y z, T x y → T y z → T x z)
    (tells : ∀ i j, i < j → j < n → (cf j i < 0 → T j i) ∧ (¬ cf j i < 0 → T i j)) : (placesN cf n).Perm (List.range n) ∧ (placesN cf n).Pairwise T := by
  cases n with
  | zero => exact ⟨List.Perm.refl _, List.Pairwise.nil⟩
  | succ m =>
    have hsz : (Array.ofFn fun i : Fin (m + 1) => i).size = m + 1 := by simp
    have hat : ∀ j (h : j < m + 1), (Array.ofFn fun i : Fin (m + 1) => i)[j]! = ⟨j, h⟩ := by
      intro j h
      rw [getElem!_pos _ j (by rw [hsz]; exact h)]
      simp
    obtain ⟨⟨p1, _, p2⟩, up⟩ := stable_spec (lt := fun x y : Fin (m + 1) => decide (cf x.val y.val < 0)) (T := fun x y : Fin (m + 1) => T x.val y.val) ⟨fun x => hi x.val, fun x y z => ht x.val y.val z.val⟩
      (Array.ofFn fun i : Fin (m + 1) => i) (by
        intro i j hij hj
        rw [hsz] at hj
        rw [hat i (by omega), hat j hj]
        obtain ⟨h1, h2⟩ := tells i j hij hj
        exact ⟨fun h => h1 (of_decide_eq_true h), fun h => h2 (of_decide_eq_false h)⟩)
    show ((stable (fun x y : Fin (m + 1) => decide (cf x.val y.val < 0)) (Array.ofFn fun i : Fin (m + 1) => i)).toList.map fun x => x.val).Perm _ ∧ ((stable (fun x y : Fin (m + 1) => decide (cf x.val y.val < 0)) (Array.ofFn fun i : Fin (m + 1) => i)).toList.map fun x => x.val).Pairwise T
    generalize stable (fun x y : Fin (m + 1) => decide (cf x.val y.val < 0)) (Array.ofFn fun i : Fin (m + 1) => i) = dk at p1 p2 up
    rw [hsz] at p1 p2 up
    have e0 : ∀ (d : Array (Fin (m + 1))), d.size = m + 1 → (d.extract 0 (m + 1)).toList = d.toList := by
      intro d h
      have : d.extract 0 d.size = d := by simp
      rw [h] at this
      rw [this]
    have e1 := e0 dk p1
    have e2 := e0 _ hsz
    rw [e1, e2] at p2
    constructor
    · have h := p2.map (fun x : Fin (m + 1) => x.val)
      have e : ((Array.ofFn fun i : Fin (m + 1) => i).toList.map fun x : Fin (m + 1) => x.val) = List.range (m + 1) := by
        apply List.ext_getElem
        · simp
        · intro j h1 h2
          simp only [List.getElem_map, Array.getElem_toList, Array.getElem_ofFn, List.getElem_range]
      rw [e] at h
      exact h
    · rw [List.pairwise_map, List.pairwise_iff_getElem]
      intro i j hi' hj' hij
      have h := up i j (Nat.zero_le _) hij (by simpa [p1] using hj')
      rw [getElem!_pos dk i (by simpa using hi'), getElem!_pos dk j (by simpa using hj')] at h
      simpa using h

/-- a stands ahead of b. -/
def Ahead (l : List Int) (a b : Nat) : Prop := l.getD b 0 < l.getD a 0 ∨ (l.getD a 0 = l.getD b 0 ∧ a < b)
theorem Ahead.irrefl (l : List Int) (x : Nat) : ¬ Ahead l x x := by unfold Ahead; omega
theorem Ahead.trans (l : List Int) (x y z : Nat) : Ahead l x y → Ahead l y z → Ahead l x z := by unfold Ahead; omega
theorem Ahead.total (l : List Int) {x y : Nat} (h : x ≠ y) : Ahead l x y ∨ Ahead l y x := by unfold Ahead; omega

def orderN (l : List Int) : List Nat := placesN (fun x y => cmpI (l.getD y 0) (l.getD x 0)) l.length
theorem orderL_eq (l : List Int) : orderL l = (orderN l).map fun x : Nat => (x : Int) := places_eq _ _
theorem orderN_spec (l : List Int) : (orderN l).Perm (List.range l.length) ∧ (orderN l).Pairwise (Ahead l) :=
  placesN_spec _ _ _ (Ahead.irrefl l) (Ahead.trans l) (by
    intro i j hij hj
    constructor
    · intro h
      unfold cmpI at h
      unfold Ahead
      split at h
      · omega
      · split at h <;> omega
    · intro h
      unfold cmpI at h
      unfold Ahead
      split at h
      · omega
      · split at h <;> omega)
/-- There is just one such order. -/
theorem order_unique (l : List Int) (o o' : List Nat) (hp : o.Perm o') (h : o.Pairwise (Ahead l)) (h' : o'.Pairwise (Ahead l)) : o = o' :=
  List.Perm.eq_of_pairwise (le := Ahead l) (fun a _ _ _ h1 h2 => (Ahead.irrefl l a (Ahead.trans l _ _ _ h1 h2)).elim) h h' hp
theorem orderN_length (l : List Int) : (orderN l).length = l.length := by rw [(orderN_spec l).1.length_eq, List.length_range]
theorem orderN_mem (l : List Int) (x : Nat) : x ∈ orderN l ↔ x < l.length := by rw [(orderN_spec l).1.mem_iff, List.mem_range]
theorem orderN_nodup (l : List Int) : (orderN l).Nodup := (orderN_spec l).1.nodup_iff.2 List.nodup_range
theorem orderN_get (l : List Int) (i : Nat) (h : i < l.length) : (orderN l).getD i 0 < l.length := by
  rw [List.getD_eq_getElem?_getD, List.getElem?_eq_getElem (by rw [orderN_length]; exact h)]
  exact (orderN_mem l _).1 (List.getElem_mem _)
end Go.Proofs.Ytjcfhgpaipbedaa.St
