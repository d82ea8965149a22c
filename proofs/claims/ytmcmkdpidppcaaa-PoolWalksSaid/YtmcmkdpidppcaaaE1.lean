-- Printed by this session's own driver (wip/tools/xprint.py) over the kit's printer; given functions are this session's own.
import Derived.Test.YtmcmkdpidppcaaaE0
import Derived.Test.YtmcmkdpidppcaaaPoolS
namespace Go.Proofs.Ytmcmkdpidppcaaa.E
open Go.RowKit Go.Proofs.YtmcmkdpidppcaaaW.PrintWords Go.Proofs.YtmcmkdpidppcaaaW.PrintLast Go.Proofs.YtmcmkdpidppcaaaW.PrintMore
attribute [local go_sem] max2_int min2_int max_two min_two max_three min_three max_four min_four   -- for this text's walks alone
set_option linter.unusedVariables false
set_option linter.unusedSimpArgs false

/-! ### w05_PoolWalks: function 7 -/
def w05_PoolWalks.f (a0 : Int) (l1 : List S57) (a2 : Int) : Option Bool := if (a0 = a0 ∧ a2 = a2) ∧ l1.length ≤ 4611686018427387904 then some true else none
theorem op_row3 {w : World} {A : Option Addr} {l : List S57} (h : Kd.C k57 w A l.length l) : Go.Proofs.Ytmcmkdpidppcaaa.St.OpRow w A (l.map fun o => (o.f0, o.f1, o.f2)) := by
 intro j hj
 rw [List.length_map] at hj
 obtain ⟨ad, e, h0, h1, h2⟩ := at_T57 h (j : Int) (by omega) (by omega)
 have hr : (l.map fun o => (o.f0, o.f1, o.f2)).getD j (0, 0, 0) = ((rd_T57 l (j : Int)).f0, (rd_T57 l (j : Int)).f1, (rd_T57 l (j : Int)).f2) := by
  unfold rd_T57
  rw [Int.toNat_natCast, List.getD_eq_getElem?_getD, List.getD_eq_getElem?_getD, List.getElem?_map, List.getElem?_eq_getElem hj]
  rfl
 rw [Int.toNat_natCast] at h0 h1 h2
 rw [hr]
 exact ⟨ad, e, h0, h1, h2⟩
theorem w05_PoolWalks.calls (a0 : Int) (A1 : Option Addr) (c1 : Nat) (l1 : List S57) (a2 : Int) (r : Bool) (w : World) (hr1 : Kd.C k57 w A1 l1.length l1) (hc1 : l1.length ≤ c1) (h : w05_PoolWalks.f a0 l1 a2 = some r) :
  Calls Try.prog 7 #[.int .i64 a0, .slice A1 l1.length c1, .int .i64 a2] w fun e w' => e = .returned (.bool r) ∧ Below w.heap.size w w' := by
 unfold w05_PoolWalks.f at h
 split at h
 ·rename_i hn
  injection h with h
  subst h
  have hp := Go.Proofs.Ytmcmkdpidppcaaa.St.walks_calls a0 A1 c1 (l1.map fun o => (o.f0, o.f1, o.f2)) a2 w (op_row3 hr1) (by rw [List.length_map]; exact hn.2)
  rw [List.length_map] at hp
  exact hp
 ·cases h

end Go.Proofs.Ytmcmkdpidppcaaa.E
