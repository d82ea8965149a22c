-- Printed by this session's own driver (wip/tools/xprint.py) over the kit's printer; given functions are this session's own.
import Derived.Test.YtgolghimefageaaD0
import Derived.Test.YtgolghimefageaaQWalk4
namespace Go.Proofs.Ytgolghimefageaa.D
open Go.RowKit Go.Proofs.YtgolghimefageaaW.PrintWords Go.Proofs.YtgolghimefageaaW.PrintLast Go.Proofs.YtgolghimefageaaW.PrintMore
attribute [local go_sem] max2_int min2_int max_two min_two max_three min_three max_four min_four   -- for this text's walks alone
set_option linter.unusedVariables false
set_option linter.unusedSimpArgs false

/-! ### w06_QueueWalk: function 6 -/
def w06_QueueWalk.f (l0 : List Int) (a1 : Int) : Option Bool := if a1 = a1 ∧ l0.length ≤ 4611686018427387904 then some true else none
theorem w06_QueueWalk.calls (A0 : Option Addr) (c0 : Nat) (l0 : List Int) (a1 : Int) (r : Bool) (w : World) (hr0 : Kd.C (Kd.int .i64) w A0 l0.length l0) (hc0 : l0.length ≤ c0) (h : w06_QueueWalk.f l0 a1 = some r) :
  Calls Try.prog 6 #[.slice A0 l0.length c0, .int .i64 a1] w fun e w' => e = .returned (.bool r) ∧ Below w.heap.size w w' := by
 unfold w06_QueueWalk.f at h
 split at h
 ·rename_i hn
  injection h with h
  subst h
  refine (callsIn_wide (n := 6)).1 (Go.Proofs.Ytgolghimefageaa.QW.walk_in A0 c0 l0 a1 w (fun j hj => ?_) hn.2)
  obtain ⟨ad, e, h1⟩ := Kd.at_int hr0 (j : Int) (by omega) (by omega)
  refine ⟨ad, e, ?_⟩
  rw [Int.toNat_natCast] at h1
  rw [h1]
  rfl
 ·cases h

end Go.Proofs.Ytgolghimefageaa.D
