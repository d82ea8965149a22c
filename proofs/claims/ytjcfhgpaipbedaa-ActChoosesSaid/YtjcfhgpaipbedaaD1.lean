-- Printed by this session's own driver (wip/tools/xprint.py) over the kit's printer; given functions are this session's own.
import Derived.Test.YtjcfhgpaipbedaaD0
import Derived.Test.YtjcfhgpaipbedaaCh9
namespace Go.Proofs.Ytjcfhgpaipbedaa.D
open Go.RowKit Go.Proofs.YtjcfhgpaipbedaaW.PrintWords Go.Proofs.YtjcfhgpaipbedaaW.PrintLast Go.Proofs.YtjcfhgpaipbedaaW.PrintMore
attribute [local go_sem] max2_int min2_int max_two min_two max_three min_three max_four min_four   -- for this text's walks alone
set_option linter.unusedVariables false
set_option linter.unusedSimpArgs false

/-! ### w12_ActChooses: function 8 -/
def i8B (l : List Int) : Bool := l.all fun x => decide (-128 ≤ x ∧ x ≤ 127)
theorem i8_of {l : List Int} (h : i8B l = true) : Go.Proofs.Ytjcfhgpaipbedaa.Pure.I8 l := fun x hx => yB (List.all_eq_true.1 h x hx)
def w12_ActChooses.f (l0_0 : List Int) (a0_1 : Int) (a0_2 : Int) (l1 : List Int) : Option Bool := if a0_1 = a0_1 ∧ a0_2 = a0_2 ∧ i8B l0_0 = true ∧ i8B l1 = true ∧ l0_0.length ≤ 140737488351232 ∧ l1.length ≤ 140737488351232 then some true else none
theorem w12_ActChooses.calls (A0_0 : Option Addr) (c0_0 : Nat) (l0_0 : List Int) (a0_1 : Int) (a0_2 : Int) (A1 : Option Addr) (c1 : Nat) (l1 : List Int) (r : Bool) (w : World) (hr0_0 : Kd.C (Kd.int .i8) w A0_0 l0_0.length l0_0) (hc0_0 : l0_0.length ≤ c0_0) (hr1 : Kd.C (Kd.int .i8) w A1 l1.length l1) (hc1 : l1.length ≤ c1) (h : w12_ActChooses.f l0_0 a0_1 a0_2 l1 = some r) :
  Calls Try.prog 8 #[.agg #[.slice A0_0 l0_0.length c0_0, .int .i64 a0_1, .int .i64 a0_2], .slice A1 l1.length c1] w fun e w' => e = .returned (.bool r) ∧ Below w.heap.size w w' := by
 unfold w12_ActChooses.f at h
 split at h
 ·rename_i hn
  injection h with h
  subst h
  obtain ⟨_, _, h1, h2, h3, h4⟩ := hn
  exact Go.Proofs.Ytjcfhgpaipbedaa.Ch.chooses_calls A0_0 c0_0 l0_0 a0_1 a0_2 A1 c1 l1 w hr0_0 hc0_0 hr1 hc1 (by omega) (by omega) rfl (Go.Proofs.Ytjcfhgpaipbedaa.Ch.chosen (i8_of h1) (i8_of h2) rfl)
 ·cases h

end Go.Proofs.Ytjcfhgpaipbedaa.D
