-- Printed by this session's own driver (wip/tools/xprint.py) over the kit's printer; given functions are this session's own.
import Derived.Test.YthmckhfjaleomaaT0
import Derived.Test.YthmckhfjaleomaaMDist
import Derived.Test.YthmckhfjaleomaaMDistB
namespace Go.Proofs.Ythmckhfjaleomaa.T
open Go.RowKit Go.Proofs.YthmckhfjaleomaaW.PrintWords Go.Proofs.YthmckhfjaleomaaW.PrintLast Go.Proofs.YthmckhfjaleomaaW.PrintMore
attribute [local go_sem] max2_int min2_int max_two min_two max_three min_three max_four min_four   -- for this text's walks alone
set_option linter.unusedVariables false
set_option linter.unusedSimpArgs false

/-! ### dist_Penalise_1: function 54 -/
def dist_Penalise_1.f (a0 : Int) : Option (Bool) := if a0 ≥ (-1048576) then (some (decide (a0 ≤ 1048576))) else (some false)
set_option maxHeartbeats 8000000 in
set_option maxRecDepth 100000 in
theorem dist_Penalise_1.calls (a0 : Int) (r : Bool) (w : World) (h : dist_Penalise_1.f a0 = some r) :
    Calls Try.prog 54 #[.int .i64 a0] w fun e w' => e = .returned (.bool r) ∧ Drawn0 w w' := by
  have H : (if a0 ≥ (-1048576) then (some (decide (a0 ≤ 1048576))) else (some false)) = some r := h
  clear h
  by_cases c2 : a0 ≥ (-1048576)
  ·rw [if_pos c2] at H
   have c2b0 : decide ((-1048576) ≤ a0) = true := yC c2
   clear c2
   obtain rfl := yY H
   go_enter Try.func54, Try.ntmps54
   go_wp2
   go_ret
   exact ⟨by first | rfl | (simp; done) | (simp [*]; done), by repeat (first | exact Drawn0.refl _ | apply Drawn0.step)⟩
  ·rw [if_neg c2] at H
   have c2b0 : decide ((-1048576) ≤ a0) = false := yD c2
   clear c2
   obtain rfl := yY H
   go_enter Try.func54, Try.ntmps54
   go_wp2
   go_ret
   exact ⟨by first | rfl | (simp; done) | (simp [*]; done), by repeat (first | exact Drawn0.refl _ | apply Drawn0.step)⟩

/-! ### dist_scored: function 55 -/
def dist_scored.f (A0 : List Int) : Option Bool := if A0.length ≤ 17592186044416 then some (Go.Proofs.Ythmckhfjaleomaa.St.scoredL A0) else none
theorem dist_scored.calls (A0 : Option Addr) (c0 : Nat) (l0 : List Int) (r : Bool) (w : World) (hr0 : Kd.C (Kd.int .i64) w A0 l0.length l0) (hc0 : l0.length ≤ c0) (h : dist_scored.f l0 = some r) :
    Calls Try.prog 55 #[.slice A0 l0.length c0] w fun e w' => e = .returned (.bool r) ∧ Below w.heap.size w w' := by
  unfold dist_scored.f at h
  split at h
  · rename_i hn
    injection h with h
    subst h
    exact Go.Proofs.Ythmckhfjaleomaa.St.scored_calls A0 c0 l0 w hr0 hn
  · cases h

/-! ### slices_ContainsFunc_int_int: function 56 -/
def slices_ContainsFunc_int_int.f (A0 : List Int) (A1 : List Int) : Option Bool := if A0.length ≤ 17592186044416 ∧ A1.length ≤ 17592186044416 then some (A0.any (Go.Proofs.Ythmckhfjaleomaa.St.offL A1.length)) else none
theorem slices_ContainsFunc_int_int.calls (A0 : Option Addr) (c0 : Nat) (l0 : List Int) (gb : Nat) (A1 : Option Addr) (c1 : Nat) (l1 : List Int) (r : Bool) (w : World) (hr0 : Kd.C (Kd.int .i64) w A0 l0.length l0) (hc0 : l0.length ≤ c0) (_ : Kd.C (Kd.int .i64) w A1 l1.length l1) (_ : l1.length ≤ c1)
    (hb : w.heap[gb]? = some (.cells #[.slice A1 l1.length c1] 36 (0, 0))) (h : slices_ContainsFunc_int_int.f l0 l1 = some r) :
    Calls Try.prog 56 #[.slice A0 l0.length c0, .func (.func 57) #[] #[.pointer (some ⟨gb, 0, none⟩)]] w fun e w' => e = .returned (.bool r) ∧ Below w.heap.size w w' := by
  unfold slices_ContainsFunc_int_int.f at h
  split at h
  · rename_i hn
    injection h with h
    subst h
    have eg : ∀ args w, (callFunc 57 args).run Try.prog w = .ok (.enter 57 args) w := enters_of Try.func57 (by kernel_rfl) rfl
    refine (Go.Proofs.Ythmckhfjaleomaa.St.contains_int A0 c0 l0 w hr0 hn.1 57 #[.pointer (some ⟨gb, 0, none⟩)] (Go.Proofs.Ythmckhfjaleomaa.St.offL l1.length) eg ?_).mono ?_
    · intro q os x _
      exact Go.Proofs.Ythmckhfjaleomaa.St.pen2_calls gb A1 c1 l1.length _ (zP hb (Go.Proofs.Ythmckhfjaleomaa.St.below_self_grow w q os)) hn.2 x
    · rintro e w' ⟨h1, q', os, rfl⟩
      exact ⟨h1, Go.Proofs.Ythmckhfjaleomaa.St.below_self_grow w q' os⟩
  · cases h

/-! ### slices_Clone_int64_int64: function 58 -/
def slices_Clone_int64_int64.f (A0 : List Int) : Option (List Int) := if A0.length ≤ 17592186044416 then some A0 else none
theorem slices_Clone_int64_int64.calls (A0 : Option Addr) (c0 : Nat) (l0 : List Int) (r : List Int) (w : World) (hr0 : Kd.C (Kd.int .i64) w A0 l0.length l0) (hc0 : l0.length ≤ c0) (h : slices_Clone_int64_int64.f l0 = some r) :
    Calls Try.prog 58 #[.slice A0 l0.length c0] w fun e w' => ∃ v0_ : Value, e = .returned (v0_) ∧ Kd.R (Kd.int .i64) 2 w' w.heap.size (fun _ => True) v0_ r ∧ Below w.heap.size w w' := by
  unfold slices_Clone_int64_int64.f at h
  split at h
  · rename_i hn
    injection h with h
    subst h
    exact Go.Proofs.Ythmckhfjaleomaa.St.clone_int64 A0 c0 l0 w hr0 hn
  · cases h

/-! ### fixed_Clamp: function 59 -/
def fixed_Clamp.f (a0 : Int) (a1 : Int) (a2 : Int) : Option (Int) := if a0 < a1 then (some a1) else (if a0 > a2 then (some a2) else (some a0))
set_option maxHeartbeats 8000000 in
set_option maxRecDepth 100000 in
theorem fixed_Clamp.calls (a0 : Int) (a1 : Int) (a2 : Int) (r : Int) (w : World) (h : fixed_Clamp.f a0 a1 a2 = some r) :
    Calls Try.prog 59 #[.int .i64 a0, .int .i64 a1, .int .i64 a2] w fun e w' => e = .returned (.int .i64 r) ∧ Drawn0 w w' := by
  have H : (if a0 < a1 then (some a1) else (if a0 > a2 then (some a2) else (some a0))) = some r := h
  clear h
  by_cases c4 : a0 < a1
  ·rw [if_pos c4] at H
   have c4b0 : decide (a0 < a1) = true := yC c4
   clear c4
   obtain rfl := yY H
   go_enter Try.func59, Try.ntmps59
   go_wp2
   go_ret
   exact ⟨by first | rfl | (simp; done) | (simp [*]; done), by repeat (first | exact Drawn0.refl _ | apply Drawn0.step)⟩
  ·rw [if_neg c4] at H
   have c4b0 : decide (a0 < a1) = false := yD c4
   clear c4
   by_cases c5 : a0 > a2
   ·rw [if_pos c5] at H
    have c5b0 : decide (a2 < a0) = true := yC c5
    clear c5
    obtain rfl := yY H
    go_enter Try.func59, Try.ntmps59
    go_wp2
    go_ret
    exact ⟨by first | rfl | (simp; done) | (simp [*]; done), by repeat (first | exact Drawn0.refl _ | apply Drawn0.step)⟩
   ·rw [if_neg c5] at H
    have c5b0 : decide (a2 < a0) = false := yD c5
    clear c5
    obtain rfl := yY H
    go_enter Try.func59, Try.ntmps59
    go_wp2
    go_ret
    exact ⟨by first | rfl | (simp; done) | (simp [*]; done), by repeat (first | exact Drawn0.refl _ | apply Drawn0.step)⟩

end Go.Proofs.Ythmckhfjaleomaa.T
