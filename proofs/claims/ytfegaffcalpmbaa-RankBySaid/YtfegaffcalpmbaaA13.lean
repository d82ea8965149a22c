-- Printed by this session's own driver (wip/tools/xprint.py) over the kit's printer; given functions are this session's own.
import Derived.Test.YtfegaffcalpmbaaA0
import Derived.Test.YtfegaffcalpmbaaA3
import Derived.Test.YtfegaffcalpmbaaA8
import Derived.Test.YtfegaffcalpmbaaBy5
namespace Go.Proofs.Ytfegaffcalpmbaa.A
open Go.RowKit Go.Proofs.YtfegaffcalpmbaaW.PrintWords Go.Proofs.YtfegaffcalpmbaaW.PrintLast Go.Proofs.YtfegaffcalpmbaaW.PrintMore
attribute [local go_sem] max2_int min2_int max_two min_two max_three min_three max_four min_four   -- for this text's walks alone
set_option linter.unusedVariables false
set_option linter.unusedSimpArgs false

/-! ### w07_RankBy: function 7 -/
def w07_RankBy.keys (down : Bool) (l : List S38) : List Int := Go.Proofs.Ytfegaffcalpmbaa.St.keysB down (l.map fun o => (o.f0, o.f1))
def w07_RankBy.f (k : Nat) (l0 : List S38) (a1 : Bool) : Option Bool :=
  if l0.length * 24 ≤ 140737488351232 ∧ (∀ t ∈ l0, -9223372036854775808 ≤ t.f0 ∧ t.f0 < 9223372036854775808) ∧ w07_awake.f k = some true ∧ r07_Order.f k (w07_RankBy.keys a1 l0) = some (Go.Proofs.Ytfegaffcalpmbaa.St.orderL (w07_RankBy.keys a1 l0)) ∧
    w07_ints.f k (Go.Proofs.Ytfegaffcalpmbaa.St.orderL (w07_RankBy.keys a1 l0)) (Go.Proofs.Ytfegaffcalpmbaa.St.orderL (w07_RankBy.keys a1 l0)) = some true then some true else none
theorem w07_RankBy.mono : ∀ a0 a1 k, LeO (w07_RankBy.f k a0 a1) (w07_RankBy.f (k + 1) a0 a1) := by
  intro a0 a1 k r h
  unfold w07_RankBy.f at h ⊢
  split at h
  · rename_i hn
    rw [if_pos ⟨hn.1, hn.2.1, w07_awake.mono k _ hn.2.2.1, r07_Order.mono _ k _ hn.2.2.2.1, w07_ints.mono _ _ k _ hn.2.2.2.2⟩]
    exact h
  · cases h
theorem thing_row {w : World} {A : Option Addr} {l : List S38} (h : Kd.C k38 w A l.length l) : Go.Proofs.Ytfegaffcalpmbaa.St.ThingRow w A (l.map fun o => (o.f0, o.f1)) := by
  intro j hj
  rw [List.length_map] at hj
  obtain ⟨ad, e, h0, h1⟩ := at_T38 h (j : Int) (by omega) (by omega)
  have hr : (l.map fun o => (o.f0, o.f1)).getD j (0, ByteArray.empty) = ((rd_T38 l (j : Int)).f0, (rd_T38 l (j : Int)).f1) := by
    unfold rd_T38
    rw [Int.toNat_natCast, List.getD_eq_getElem?_getD, List.getD_eq_getElem?_getD, List.getElem?_map, List.getElem?_eq_getElem hj]
    rfl
  rw [Int.toNat_natCast] at h0 h1
  rw [hr]
  exact ⟨ad, e, h0, h1⟩
theorem w07_RankBy.calls (k : Nat) (A0 : Option Addr) (c0 : Nat) (l0 : List S38) (a1 : Bool) (r : Bool) (w : World) (hr0 : Kd.C k38 w A0 l0.length l0) (hc0 : l0.length ≤ c0) (h : w07_RankBy.f k l0 a1 = some r) :
    Calls Try.prog 7 #[.slice A0 l0.length c0, .bool a1] w fun e w' => e = .returned (.bool r) ∧ Below w.heap.size w w' := by
  unfold w07_RankBy.f at h
  split at h
  · rename_i hn
    injection h with h
    subst h
    have hk : (w07_RankBy.keys a1 l0).length = l0.length := by simp [w07_RankBy.keys, Go.Proofs.Ytfegaffcalpmbaa.St.keysB]
    have ho : (Go.Proofs.Ytfegaffcalpmbaa.St.orderL (w07_RankBy.keys a1 l0)).length = l0.length := by rw [← hk]; exact Go.Proofs.Ytfegaffcalpmbaa.St.order_len a1 _ |>.trans (by simp [hk])
    have hp := Go.Proofs.Ytfegaffcalpmbaa.St.rankBy_calls a1 A0 c0 (l0.map fun o => (o.f0, o.f1)) w (thing_row hr0) (by rw [List.length_map]; exact hn.1) (by
        intro t ht
        obtain ⟨o, ho, rfl⟩ := List.mem_map.1 ht
        exact hn.2.1 o ho) (fun W => w07_awake.calls k true W hn.2.2.1)
      (fun W A c hC hc => by rw [List.length_map] at hC hc ⊢; rw [← hk] at hC hc ⊢; exact r07_Order.calls k A c _ _ W hC hc hn.2.2.2.1)
      (fun W A B c d hA hB hc hd => by rw [List.length_map] at hA hB hc hd ⊢; rw [← ho] at hA hB hc hd ⊢; refine (w07_ints.calls k A c _ B d _ true W hA hc hB hd hn.2.2.2.2).mono ?_; rintro e w' ⟨rfl, hd'⟩; exact ⟨rfl, hd'.below⟩)
    rw [List.length_map] at hp
    exact hp
  · cases h

end Go.Proofs.Ytfegaffcalpmbaa.A
