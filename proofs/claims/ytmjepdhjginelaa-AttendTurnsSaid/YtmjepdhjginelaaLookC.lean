/- attend: the calls of the laws that are walked by hand. -/
import Derived.Deep.RegionWith
import Derived.Deep.RegionHeld3
import Derived.Shelf.RegionOpen
import Derived.Lib.Hide
import Derived.Test.YtmjepdhjginelaaAtt5
namespace Go.Proofs.Ytmjepdhjginelaa.Tu
set_option linter.unusedVariables false
open Go.Proofs Go.RowKit Go.Shelf Go.Proofs.YtmjepdhjginelaaW.PrintWords Go.Proofs.YtmjepdhjginelaaW.PrintLast Go.Proofs.YtmjepdhjginelaaW.PrintMore Go.Proofs.Ytmjepdhjginelaa.B Go.Proofs.Ytmjepdhjginelaa.St Go.Proofs.Ytmjepdhjginelaa.Pure
attribute [local go_sem] Oper.semAt_some
/-- What holds of the pairs. -/
structure PG (l : List P49) : Prop where
  len : l.length * 48 ≤ 140737488351232
  i8 : ∀ r ∈ vsL l, I8 r
  each : ∀ p ∈ l, p.f0.length * 1 ≤ 140737488351232 ∧ p.f1.length * 1 ≤ 140737488351232
section
variable {w : World} {A0 : Option Addr} {c0 : Nat} {q : List Int} {heads : Int} {P2 : Nat → Prop} {A2 : Option Addr} {c2 : Nat} {l : List P49} {s : Int}
theorem look_c (hr0 : Kd.C (Kd.int .i8) w A0 q.length q) (hc0 : q.length ≤ c0) (hs2 : Kd.V k49 49 w w.heap.size P2 (.slice A2 l.length c2) l) (hL : l.length * 48 ≤ 140737488351232) (h8 : ∀ r ∈ vsL l, I8 r) {R : List Int} {E : Int} (hE : lookL q heads (ksL l) (vsL l) s = (R, E)) :
    Calls Try.prog 19 #[.slice A0 q.length c0, .int .i64 heads, .slice A2 l.length c2, .int .i64 s] w fun e w' => ∃ v : Value, e = .returned (.tuple #[v, .int .i64 E]) ∧ Kd.R (Kd.int .i8) 53 w' w.heap.size (fun k_ => (w.heap.size ≤ k_)) v R ∧ Below w.heap.size w w' := by
  obtain ⟨K, hK⟩ := own_look q heads l s hL h8
  rw [hE] at hK
  exact attend_Look.calls K A0 c0 q heads P2 A2 c2 l s _ _ w hr0 hc0 hs2 (hK K (Nat.le_refl _))
theorem ref_c {l2 : List P50} (hr0 : Kd.C (Kd.int .i8) w A0 q.length q) (hc0 : q.length ≤ c0) (e : l2 = prL l) (hs2 : Kd.V k50 50 w w.heap.size P2 (.slice A2 l2.length c2) l2) (hL : l.length * 48 ≤ 140737488351232) (h8 : ∀ r ∈ vsL l, I8 r) {R : List Int} {E : Int} (hE : lookL q heads (ksL l) (vsL l) s = (R, E)) :
    Calls Try.prog 20 #[.slice A0 q.length c0, .int .i64 heads, .slice A2 l2.length c2, .int .i64 s] w fun e w' => ∃ v : Value, e = .returned (.tuple #[v, .int .i64 E]) ∧ Kd.R (Kd.int .i8) 53 w' w.heap.size (fun k_ => (w.heap.size ≤ k_)) v R ∧ Below w.heap.size w w' := by
  subst e
  obtain ⟨K, hK⟩ := ref_look q heads l s hL h8
  rw [hE] at hK
  exact r19_Look.calls K A0 c0 q heads P2 A2 c2 (prL l) s _ _ w hr0 hc0 hs2 (hK K (Nat.le_refl _))
theorem pairs_c (hr0 : Kd.C k49 w A2 l.length l) (hc0 : l.length ≤ c2) (hG : PG l) :
    Calls Try.prog 18 #[.slice A2 l.length c2] w fun e w' => ∃ v, e = .returned v ∧ Kd.S k50 50 w' w.heap.size (fun _ => True) v (prL l) ∧ Below w.heap.size w w' := by
  obtain ⟨K, hK⟩ := pairs_ev l hG.len hG.each
  exact w19_pairs.calls K A2 c2 l _ w hr0 hc0 (hK K (Nat.le_refl _))
theorem awake_c : Calls Try.prog 13 #[] w fun e w' => e = .returned (.bool true) ∧ Below w.heap.size w w' := by
  obtain ⟨K, hK⟩ := awake
  exact w19_awake.calls K _ w (hK K (Nat.le_refl _))
theorem rows_c {A1 : Option Addr} {c1 : Nat} (hr0 : Kd.C (Kd.int .i8) w A0 q.length q) (hc0 : q.length ≤ c0) (hr1 : Kd.C (Kd.int .i8) w A1 q.length q) (hc1 : q.length ≤ c1) (hl : q.length ≤ 64) :
    Calls Try.prog 17 #[.slice A0 q.length c0, .slice A1 q.length c1] w fun e w' => e = .returned (.bool true) ∧ Drawn0 w w' := by
  obtain ⟨K, hK⟩ := rows_ev q (by omega)
  exact w19_rows.calls K A0 c0 q A1 c1 q _ w hr0 hc0 hr1 hc1 (hK K (Nat.le_refl _))
end
end Go.Proofs.Ytmjepdhjginelaa.Tu
