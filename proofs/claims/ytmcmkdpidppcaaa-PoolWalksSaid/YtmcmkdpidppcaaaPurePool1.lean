/- How many places are free. -/
import Derived.Test.YtmcmkdpidppcaaaPurePool0
import Derived.Test.YtmcmkdpidppcaaaPoolG
namespace Go.Proofs.Ytmcmkdpidppcaaa.St
theorem filt_sum (p : Nat → Bool) (l : List Nat) : (l.filter p).length + (l.filter fun j => !p j).length = l.length := by
  induction l with
  | nil => rfl
  | cons a l ih =>
    rw [List.filter_cons, List.filter_cons, List.length_cons]
    cases p a with
    | true => simp only [if_true, Bool.not_true, Bool.false_eq_true, if_false, List.length_cons]; omega
    | false => simp only [Bool.false_eq_true, if_false, Bool.not_false, if_true, List.length_cons]; omega
def freeL (S : List (Bool × Int)) : List Int := (((List.range S.length).filter fun j : Nat => !(S.getD j (false, 0)).1).map fun j : Nat => (j : Int)).reverse
theorem freeL_is (S : List (Bool × Int)) : FreeOf S (freeL S) := by
  unfold freeL
  constructor
  · rw [List.pairwise_reverse, List.pairwise_map]
    refine List.Pairwise.imp ?_ (List.Pairwise.filter _ List.pairwise_lt_range)
    intro a b h
    show (b : Int) > (a : Int)
    omega
  · intro x
    rw [List.mem_reverse, List.mem_map]
    constructor
    · rintro ⟨j, hj, rfl⟩
      obtain ⟨h1, h2⟩ := List.mem_filter.1 hj
      exact ⟨j, rfl, List.mem_range.1 h1, by simpa using h2⟩
    · rintro ⟨j, rfl, hj, e⟩
      exact ⟨j, List.mem_filter.2 ⟨List.mem_range.2 hj, by rw [e]; rfl⟩, rfl⟩
theorem FreeOf.count {S : List (Bool × Int)} {F : List Int} (h : FreeOf S F) : F.length + (takenTo S S.length).length = S.length := by
  have e : F = freeL S := desc_eq F (freeL S) h.1 (freeL_is S).1 fun x => (h.2 x).trans ((freeL_is S).2 x).symm
  rw [e]
  unfold freeL takenTo
  rw [List.length_reverse, List.length_map, List.length_map]
  have := filt_sum (fun j : Nat => (S.getD j (false, 0)).1) (List.range S.length)
  rw [List.length_range] at this
  omega
end Go.Proofs.Ytmcmkdpidppcaaa.St
