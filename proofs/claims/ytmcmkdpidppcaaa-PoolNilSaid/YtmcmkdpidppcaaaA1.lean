-- Printed by this session's own driver (wip/tools/xprint.py) over the kit's printer; given functions are this session's own.
import Derived.Test.YtmcmkdpidppcaaaA0
import Derived.Test.YtmcmkdpidppcaaaPoolNil2
namespace Go.Proofs.Ytmcmkdpidppcaaa.A
open Go.RowKit Go.Proofs.YtmcmkdpidppcaaaW.PrintWords Go.Proofs.YtmcmkdpidppcaaaW.PrintLast Go.Proofs.YtmcmkdpidppcaaaW.PrintMore
attribute [local go_sem] max2_int min2_int max_two min_two max_three min_three max_four min_four   -- for this text's walks alone
set_option linter.unusedVariables false
set_option linter.unusedSimpArgs false

/-! ### w05_PoolNil: function 8 -/
def w05_PoolNil.f (a0 a1 : Int) : Option Bool := if a0 = a0 ∧ a1 = a1 then some true else none
theorem w05_PoolNil.calls (a0 a1 : Int) (r : Bool) (w : World) (h : w05_PoolNil.f a0 a1 = some r) :
  Calls Try.prog 8 #[.int .i64 a0, .int .i64 a1] w fun e w' => e = .returned (.bool r) ∧ Below w.heap.size w w' := by
 unfold w05_PoolNil.f at h
 rw [if_pos ⟨rfl, rfl⟩] at h
 injection h with h
 subst h
 exact Go.Proofs.Ytmcmkdpidppcaaa.St.poolNil_calls a0 a1 w

end Go.Proofs.Ytmcmkdpidppcaaa.A
