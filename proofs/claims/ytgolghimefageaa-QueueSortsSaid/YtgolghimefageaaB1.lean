-- Printed by this session's own driver (wip/tools/xprint.py) over the kit's printer; given functions are this session's own.
import Derived.Test.YtgolghimefageaaB0
import Derived.Test.YtgolghimefageaaQSort6
namespace Go.Proofs.Ytgolghimefageaa.B
open Go.RowKit Go.Proofs.YtgolghimefageaaW.PrintWords Go.Proofs.YtgolghimefageaaW.PrintLast Go.Proofs.YtgolghimefageaaW.PrintMore
attribute [local go_sem] max2_int min2_int max_two min_two max_three min_three max_four min_four   -- for this text's walks alone
set_option linter.unusedVariables false
set_option linter.unusedSimpArgs false

/-! ### w06_QueueSorts: function 3 -/
def w06_QueueSorts.f (l0 : List ByteArray) (a1 : Bool) : Option Bool := if a1 = a1 ∧ l0.length ≤ 4611686018427387000 then some true else none
theorem w06_QueueSorts.calls (A0 : Option Addr) (c0 : Nat) (l0 : List ByteArray) (a1 : Bool) (r : Bool) (w : World) (hr0 : Kd.C Kd.string w A0 l0.length l0) (hc0 : l0.length ≤ c0) (h : w06_QueueSorts.f l0 a1 = some r) :
  Calls Try.prog 3 #[.slice A0 l0.length c0, .bool a1] w fun e w' => e = .returned (.bool r) ∧ Below w.heap.size w w' := by
 unfold w06_QueueSorts.f at h
 split at h
 ·injection h with h
  subst h
  refine Go.Proofs.Ytgolghimefageaa.QS.sorts_calls A0 c0 l0 a1 w (fun j hj => ?_) hc0
  obtain ⟨ad, e, h1⟩ := Kd.at_string hr0 (j : Int) (by omega) (by omega)
  refine ⟨ad, e, ?_⟩
  rw [Int.toNat_natCast] at h1
  rw [h1]
  unfold rdOf
  rw [Int.toNat_natCast]
 ·cases h

end Go.Proofs.Ytgolghimefageaa.B
