/- What By's orders are, in plain Lean. -/
import Derived.Test.YtfegaffcalpmbaaBy2
import Derived.Test.YtfegaffcalpmbaaOrder
namespace Go.Proofs.Ytfegaffcalpmbaa.St
open Go.Sort
theorem places_congr {cf cf' : Nat → Nat → Int} (n : Nat) (h : ∀ x y, x < n → y < n → cf x y = cf' x y) : places cf n = places cf' n := by
  cases n with
  | zero => rfl
  | succ m =>
    have e : (fun x y : Fin (m + 1) => decide (cf x.val y.val < 0)) = (fun x y : Fin (m + 1) => decide (cf' x.val y.val < 0)) := by
      funext x y
      rw [h x.val y.val x.isLt y.isLt]
    exact congrArg (fun lt => ((stable lt (Array.ofFn fun i : Fin (m + 1) => i)).toList.map fun x : Fin (m + 1) => ((x.val : Nat) : Int))) e
/-- The law's keys. -/
def keyB (down : Bool) (k : Int) : Int := if down then k / 2 else -(k / 2)
def keysB (down : Bool) (ts : List (Int × ByteArray)) : List Int := ts.map fun t => keyB down t.1
theorem keysB_get (down : Bool) (ts : List (Int × ByteArray)) (i : Nat) (h : i < ts.length) : (keysB down ts).getD i 0 = keyB down (ts.getD i (0, ByteArray.empty)).1 := by
  simp [keysB, List.getD_eq_getElem?_getD, List.getElem?_eq_getElem h]
theorem cfB_eq (down : Bool) (x y : Int) : cfB down x y = cmpI (keyB down y) (keyB down x) := by
  unfold cfB cmpI aheadB keyB
  cases down <;> simp <;> split <;> split <;> first | rfl | omega | (split <;> first | rfl | omega)
theorem by_order (down : Bool) (ts : List (Int × ByteArray)) : places (fun x y => cfB down (ts.getD x (0, ByteArray.empty)).1 (ts.getD y (0, ByteArray.empty)).1) ts.length = orderL (keysB down ts) := by
  have e : (keysB down ts).length = ts.length := by simp [keysB]
  unfold orderL
  rw [e]
  refine places_congr _ fun x y hx hy => ?_
  rw [keysB_get _ _ _ hx, keysB_get _ _ _ hy]
  exact cfB_eq _ _ _
theorem by_none (n : Nat) : places (fun _ _ => (0 : Int)) n = (List.range n).map fun x : Nat => (x : Int) := by
  obtain ⟨h1, h2⟩ := placesN_spec (fun _ _ => (0 : Int)) n (fun x y => x < y) (fun x => Nat.lt_irrefl x) (fun x y z => Nat.lt_trans) (fun i j hij _ => ⟨fun h => absurd h (by decide), fun _ => hij⟩)
  have e : placesN (fun _ _ => (0 : Int)) n = List.range n := List.Perm.eq_of_pairwise (le := fun x y => x < y) (fun a b _ _ h1 h2 => absurd h1 (by omega)) h2 List.pairwise_lt_range h1
  rw [places_eq, e]
theorem by_none_get (n i : Nat) (h : i < n) : (places (fun _ _ => (0 : Int)) n).getD i 0 = i := by
  rw [by_none]
  simp [List.getD_eq_getElem?_getD, h]
theorem by_none_length (n : Nat) : (places (fun _ _ => (0 : Int)) n).length = n := by rw [by_none]; simp
end Go.Proofs.Ytfegaffcalpmbaa.St
