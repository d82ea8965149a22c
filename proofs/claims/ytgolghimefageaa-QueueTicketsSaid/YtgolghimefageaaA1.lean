-- Printed by this session's own driver (wip/tools/xprint.py) over the kit's printer; given functions are this session's own.
import Derived.Test.YtgolghimefageaaA0
import Derived.Test.YtgolghimefageaaQTick2
namespace Go.Proofs.Ytgolghimefageaa.A
open Go.RowKit Go.Proofs.YtgolghimefageaaW.PrintWords Go.Proofs.YtgolghimefageaaW.PrintLast Go.Proofs.YtgolghimefageaaW.PrintMore
attribute [local go_sem] max2_int min2_int max_two min_two max_three min_three max_four min_four   -- for this text's walks alone
set_option linter.unusedVariables false
set_option linter.unusedSimpArgs false

/-! ### w06_QueueTickets: function 4 -/
def w06_QueueTickets.f (a0 : Int) (l1 : List S40) : Option Bool := if a0 = a0 ∧ l1.length ≤ 4611686018427387000 ∧ (∀ o ∈ l1, -9223372036854775808 ≤ o.f3 ∧ o.f3 ≤ 9223372036854775807) then some true else none
theorem op_row {w : World} {A : Option Addr} {l : List S40} (h : Kd.C k40 w A l.length l) : Go.Proofs.Ytgolghimefageaa.QT.OpRow w A (l.map fun o => (o.f0, o.f1, o.f2, o.f3)) := by
 intro j hj
 rw [List.length_map] at hj
 obtain ⟨ad, e, h0, h1, h2, h3⟩ := at_T40 h (j : Int) (by omega) (by omega)
 have hr : (l.map fun o => (o.f0, o.f1, o.f2, o.f3)).getD j (0, 0, ByteArray.empty, 0) = ((rd_T40 l (j : Int)).f0, (rd_T40 l (j : Int)).f1, (rd_T40 l (j : Int)).f2, (rd_T40 l (j : Int)).f3) := by
  unfold rd_T40
  rw [Int.toNat_natCast, List.getD_eq_getElem?_getD, List.getD_eq_getElem?_getD, List.getElem?_map, List.getElem?_eq_getElem hj]
  rfl
 rw [Int.toNat_natCast] at h0 h1 h2 h3
 rw [hr]
 exact ⟨ad, e, h0, h1, h2, h3⟩
theorem w06_QueueTickets.calls (a0 : Int) (A1 : Option Addr) (c1 : Nat) (l1 : List S40) (r : Bool) (w : World) (hr1 : Kd.C k40 w A1 l1.length l1) (hc1 : l1.length ≤ c1) (h : w06_QueueTickets.f a0 l1 = some r) :
  Calls Try.prog 4 #[.int .i64 a0, .slice A1 l1.length c1] w fun e w' => e = .returned (.bool r) ∧ Below w.heap.size w w' := by
 unfold w06_QueueTickets.f at h
 split at h
 ·rename_i hn
  injection h with h
  subst h
  have hp := Go.Proofs.Ytgolghimefageaa.QT.tickets_calls a0 A1 c1 (l1.map fun o => (o.f0, o.f1, o.f2, o.f3)) w (op_row hr1) (fun j hj => by
   rw [List.length_map] at hj
   have e : (l1.map fun o => (o.f0, o.f1, o.f2, o.f3)).getD j (0, 0, ByteArray.empty, 0) = (l1[j].f0, l1[j].f1, l1[j].f2, l1[j].f3) := by
    rw [List.getD_eq_getElem?_getD, List.getElem?_map, List.getElem?_eq_getElem hj]
    rfl
   rw [e]
   exact hn.2.2 _ (List.getElem_mem hj)) (by rw [List.length_map]; exact hn.2.1)
  rw [List.length_map] at hp
  exact hp
 ·cases h

end Go.Proofs.Ytgolghimefageaa.A
