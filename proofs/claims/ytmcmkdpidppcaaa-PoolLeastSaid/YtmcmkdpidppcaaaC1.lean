-- Printed by this session's own driver (wip/tools/xprint.py) over the kit's printer; given functions are this session's own.
import Derived.Test.YtmcmkdpidppcaaaC0
import Derived.Test.YtmcmkdpidppcaaaPoolO
namespace Go.Proofs.Ytmcmkdpidppcaaa.C
open Go.RowKit Go.Proofs.YtmcmkdpidppcaaaW.PrintWords Go.Proofs.YtmcmkdpidppcaaaW.PrintLast Go.Proofs.YtmcmkdpidppcaaaW.PrintMore
attribute [local go_sem] max2_int min2_int max_two min_two max_three min_three max_four min_four   -- for this text's walks alone
set_option linter.unusedVariables false
set_option linter.unusedSimpArgs false

/-! ### w05_PoolLeast: function 4 -/
def w05_PoolLeast.f (a0 : Int) (l1 : List Int) : Option Bool := if a0 = a0 ∧ l1.length ≤ 17592186044415 ∧ ∀ x ∈ l1, (Lit.int .i64 x).wf = true then some true else none
theorem w05_PoolLeast.calls (a0 : Int) (A1 : Option Addr) (c1 : Nat) (l1 : List Int) (r : Bool) (w : World) (hr1 : Kd.C (Kd.int .i64) w A1 l1.length l1) (hc1 : l1.length ≤ c1) (h : w05_PoolLeast.f a0 l1 = some r) :
  Calls Try.prog 4 #[.int .i64 a0, .slice A1 l1.length c1] w fun e w' => e = .returned (.bool r) ∧ Below w.heap.size w w' := by
 unfold w05_PoolLeast.f at h
 split at h
 ·rename_i hn
  injection h with h
  subst h
  exact Go.Proofs.Ytmcmkdpidppcaaa.St.least_calls a0 A1 c1 l1 w hr1 hn.2.2 hn.2.1
 ·cases h

end Go.Proofs.Ytmcmkdpidppcaaa.C
