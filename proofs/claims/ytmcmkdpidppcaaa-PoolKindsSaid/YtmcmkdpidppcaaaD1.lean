-- Printed by this session's own driver (wip/tools/xprint.py) over the kit's printer; given functions are this session's own.
import Derived.Test.YtmcmkdpidppcaaaD0
import Derived.Test.YtmcmkdpidppcaaaPoolP
namespace Go.Proofs.Ytmcmkdpidppcaaa.D
open Go.RowKit Go.Proofs.YtmcmkdpidppcaaaW.PrintWords Go.Proofs.YtmcmkdpidppcaaaW.PrintLast Go.Proofs.YtmcmkdpidppcaaaW.PrintMore
attribute [local go_sem] max2_int min2_int max_two min_two max_three min_three max_four min_four   -- for this text's walks alone
set_option linter.unusedVariables false
set_option linter.unusedSimpArgs false

/-! ### w05_PoolKinds: function 3 -/
def w05_PoolKinds.f (a0 : Int) (l1 : List ByteArray) : Option Bool := if a0 = a0 ∧ l1.length ≤ 17592186044415 then some true else none
theorem w05_PoolKinds.calls (a0 : Int) (A1 : Option Addr) (c1 : Nat) (l1 : List ByteArray) (r : Bool) (w : World) (hr1 : Kd.C Kd.string w A1 l1.length l1) (hc1 : l1.length ≤ c1) (h : w05_PoolKinds.f a0 l1 = some r) :
  Calls Try.prog 3 #[.int .i64 a0, .slice A1 l1.length c1] w fun e w' => e = .returned (.bool r) ∧ Below w.heap.size w w' := by
 unfold w05_PoolKinds.f at h
 split at h
 ·rename_i hn
  injection h with h
  subst h
  refine Go.Proofs.Ytmcmkdpidppcaaa.St.kinds_calls a0 A1 c1 l1 w (fun j hj => ?_) hn.2
  obtain ⟨ad, c, e, _, hK, hc0⟩ := Kd.C_get hr1 ByteArray.empty (j : Int) (by omega) (by omega)
  have hK' : c = [.string (l1.getD j ByteArray.empty)] := by rw [Int.toNat_natCast] at hK; exact hK
  subst hK'
  have h := hc0 0 _ rfl
  rw [Int.toNat_natCast] at h
  exact ⟨ad, e, by rw [show j * (Kd.string).sz + 0 = j by show j * 1 + 0 = j; omega] at h; exact h⟩
 ·cases h

end Go.Proofs.Ytmcmkdpidppcaaa.D
