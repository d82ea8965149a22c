/- A map of the taken places: the plain law. -/
import Derived.Maps.Own
import Derived.Maps.OwnOps
import Derived.Maps.OwnSet
import Derived.Maps.Views
import Derived.Test.YtmcmkdpidppcaaaPurePool1
namespace Go.Proofs.Ytmcmkdpidppcaaa.St
open Go.Maps
theorem hasL_set (S : List (Bool × Int)) (m : Nat) (hm : m < S.length) (t : Bool) (v x : Int) : hasL (S.set m (t, v)) x = if x = (m : Int) then t else hasL S x := by
  unfold hasL
  rw [List.length_set]
  by_cases c : x = (m : Int)
  · subst c
    rw [if_pos rfl, decide_eq_true (by omega), decide_eq_true (by omega), Int.toNat_natCast, getD_set S m m _ hm, if_pos rfl]
    rfl
  · rw [if_neg c]
    by_cases c0 : 0 ≤ x
    · rw [getD_set S m x.toNat _ hm, if_neg (by omega)]
    · rw [decide_eq_false c0]
      rfl
theorem hasL_nat (S : List (Bool × Int)) (k : Nat) (hk : k < S.length) : hasL S (k : Int) = (S.getD k (false, 0)).1 := by
  unfold hasL
  rw [decide_eq_true (by omega), decide_eq_true (by omega), Int.toNat_natCast]
  rfl
/-- The map says which places are taken, and what they have. -/
structure MapIs (S : List (Bool × Int)) (F : List Int) (D : DataW Unit) : Prop where
  tidy : Tidy D
  has : ∀ x : Int, Maps.has D (.int .i64 x) = hasL S x
  at_ : ∀ k : Nat, k < S.length → (S.getD k (false, 0)).1 = true → ∀ z, D.atKey (.int .i64 (k : Int)) z = .lit (.int .i64 (S.getD k (false, 0)).2)
  size : Maps.size D + F.length = S.length
theorem key_lit (x : Int) : WideAt.IsKeyLit (.int .i64 x) := trivial
theorem key_ne {x y : Int} (h : x ≠ y) : (Lit.int .i64 x) ≠ Lit.int .i64 y := fun e => h (by injection e)
theorem MapIs.new (n : Nat) (F : List Int) (hF : F.length = n) : MapIs (List.replicate n (false, 0)) F (.map []) := by
  have hg : ∀ k, ((List.replicate n ((false, 0) : Bool × Int)).getD k (false, 0)).1 = false := fun k => by
    rw [List.getD_eq_getElem?_getD, List.getElem?_replicate]
    split <;> rfl
  refine ⟨tidy_empty, fun x => ?_, fun k _ h => ?_, ?_⟩
  · unfold hasL
    rw [hg]
    simp [Maps.has]
  · rw [hg] at h
    cases h
  · rw [List.length_replicate]
    simp [Maps.size, hF]
theorem MapIs.put {S : List (Bool × Int)} {F F' : List Int} {D : DataW Unit} (h : MapIs S F D) (m : Nat) (hm : m < S.length) (hf : (S.getD m (false, 0)).1 = false) (hF : F.length = F'.length + 1) (v : Int) : MapIs (S.set m (true, v)) F' (D.put (.int .i64 (m : Int)) (.lit (.int .i64 v))) := by
  refine ⟨h.tidy.put (key_lit _) _, fun x => ?_, fun k hk ht z => ?_, ?_⟩
  · rw [hasL_set S m hm]
    by_cases c : x = (m : Int)
    · subst c
      rw [if_pos rfl]
      exact has_put_same h.tidy.isMap (key_lit _) _
    · rw [if_neg c, has_put_other (key_ne c)]
      exact h.has x
  · rw [List.length_set] at hk
    rw [getD_set S m k _ hm] at ht ⊢
    by_cases c : k = m
    · subst c
      rw [if_pos rfl]
      exact atKey_put_same h.tidy.isMap (key_lit _) _ _
    · rw [if_neg c] at ht ⊢
      rw [atKey_put_other (key_ne (by omega))]
      exact h.at_ k hk ht z
  · have hno : ¬ Maps.has D (.int .i64 (m : Int)) = true := by rw [h.has, hasL_nat S m hm, hf]; decide
    rw [size_put h.tidy, if_neg hno, List.length_set]
    have := h.size
    omega
theorem MapIs.del {S : List (Bool × Int)} {F F' : List Int} {D : DataW Unit} (h : MapIs S F D) (m : Nat) (hm : m < S.length) (ht : (S.getD m (false, 0)).1 = true) (hF : F'.length = F.length + 1) : MapIs (S.set m (false, 0)) F' (D.del (.int .i64 (m : Int))) := by
  refine ⟨h.tidy.del _, fun x => ?_, fun k hk ht' z => ?_, ?_⟩
  · rw [hasL_set S m hm]
    by_cases c : x = (m : Int)
    · subst c
      rw [if_pos rfl]
      exact has_del_same
    · rw [if_neg c, has_del_other (key_ne c)]
      exact h.has x
  · rw [List.length_set] at hk
    rw [getD_set S m k _ hm] at ht' ⊢
    by_cases c : k = m
    · rw [if_pos c] at ht'
      cases ht'
    · rw [if_neg c] at ht' ⊢
      rw [atKey_del_other (key_ne (by omega))]
      exact h.at_ k hk ht' z
  · have hs := size_del (k := .int .i64 (m : Int)) h.tidy
    rw [h.has, hasL_nat S m hm, ht, if_pos rfl] at hs
    rw [List.length_set]
    have := h.size
    omega
theorem MapIs.del_no {S : List (Bool × Int)} {F : List Int} {D : DataW Unit} (h : MapIs S F D) (x : Int) (hx : hasL S x = false) : MapIs S F (D.del (.int .i64 x)) := by
  rw [del_of_not_has ((h.has x).trans hx)]
  exact h
end Go.Proofs.Ytmcmkdpidppcaaa.St
