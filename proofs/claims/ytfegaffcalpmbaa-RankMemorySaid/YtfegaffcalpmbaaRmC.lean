/- rank: the calls of the laws that are walked by hand. -/
import Derived.Deep.RegionWith
import Derived.Deep.RegionHeld3
import Derived.Lib.Hide
import Derived.Test.YtfegaffcalpmbaaPureRankNucleus
namespace Go.Proofs.Ytfegaffcalpmbaa.Rm
set_option linter.unusedVariables false
open Go.Proofs Go.RowKit Go.Proofs.YtfegaffcalpmbaaW.PrintWords Go.Proofs.Ytfegaffcalpmbaa.A Go.Proofs.Ytfegaffcalpmbaa.St Go.Proofs.Ytfegaffcalpmbaa.Pure
section
variable {w : World} {A0 A1 : Option Addr} {c0 c1 : Nat} {l m : List Int} {p t : Int} {R : List Int} {E : Int}
abbrev RowOf (e : Nat) (w w' : World) (v : Value) (R : List Int) : Prop := Kd.R (Kd.int .i64) e w' w.heap.size (fun _ => True) v R ∧ Below w.heap.size w w'
theorem order_c (hr0 : Kd.C (Kd.int .i64) w A0 l.length l) (hc0 : l.length ≤ c0) (hl : l.length < 17592186044416) : Calls Try.prog 14 #[.slice A0 l.length c0] w fun e w' => ∃ v : Value, e = .returned v ∧ RowOf 3 w w' v (orderL l) :=
  rank_Order.calls A0 c0 l _ w hr0 hc0 (own_order l (by omega))
theorem order_r (hr0 : Kd.C (Kd.int .i64) w A0 l.length l) (hc0 : l.length ≤ c0) (hl : l.length < 17592186044416) : Calls Try.prog 22 #[.slice A0 l.length c0] w fun e w' => ∃ v : Value, e = .returned v ∧ RowOf 3 w w' v (orderL l) := by
  obtain ⟨K, hK⟩ := ref_order l hl
  exact r07_Order.calls K A0 c0 l _ w hr0 hc0 (hK K (Nat.le_refl _))
theorem top_c (hr0 : Kd.C (Kd.int .i64) w A0 l.length l) (hc0 : l.length ≤ c0) (hl : l.length < 17592186044416) : Calls Try.prog 24 #[.slice A0 l.length c0, .int .i64 p] w fun e w' => ∃ v : Value, e = .returned v ∧ RowOf 3 w w' v (topL l p) :=
  rank_Top.calls A0 c0 l p _ w hr0 hc0 (own_top l (by omega) p)
theorem top_r (hr0 : Kd.C (Kd.int .i64) w A0 l.length l) (hc0 : l.length ≤ c0) (hl : l.length < 17592186044416) : Calls Try.prog 25 #[.slice A0 l.length c0, .int .i64 p] w fun e w' => ∃ v : Value, e = .returned v ∧ RowOf 3 w w' v (topL l p) := by
  obtain ⟨K, hK⟩ := ref_order l hl
  exact r07_Top.calls K A0 c0 l p _ w hr0 hc0 (ref_top l p K (hK K (Nat.le_refl _)))
theorem nuc_c (hr0 : Kd.C (Kd.int .i64) w A0 l.length l) (hc0 : l.length ≤ c0) (hl : l.length < 17592186044416) (hE : nucL l p = (R, E)) : Calls Try.prog 26 #[.slice A0 l.length c0, .int .i64 p] w fun e w' => ∃ v : Value, e = .returned (.tuple #[v, .int .i64 E]) ∧ RowOf 3 w w' v R :=
  rank_Nucleus.calls 10000 A0 c0 l p R E w hr0 hc0 (by rw [← hE]; exact own_nuc l (by omega) p 10000 (Nat.le_refl _))
theorem nuc_r (hr0 : Kd.C (Kd.int .i64) w A0 l.length l) (hc0 : l.length ≤ c0) (hl : l.length < 17592186044416) (hE : nucL l p = (R, E)) : Calls Try.prog 27 #[.slice A0 l.length c0, .int .i64 p] w fun e w' => ∃ v : Value, e = .returned (.tuple #[v, .int .i64 E]) ∧ RowOf 3 w w' v R := by
  obtain ⟨K, hK⟩ := ref_nuc l hl p
  exact r07_Nucleus.calls K A0 c0 l p R E w hr0 hc0 (by rw [← hE]; exact hK K (Nat.le_refl _))
theorem share_c (hr0 : Kd.C (Kd.int .i64) w A0 l.length l) (hc0 : l.length ≤ c0) (hl : l.length < 17592186044416) (hE : shareL l t = (R, E)) : Calls Try.prog 16 #[.slice A0 l.length c0, .int .i64 t] w fun e w' => ∃ v : Value, e = .returned (.tuple #[v, .int .i64 E]) ∧ RowOf 2 w w' v R :=
  rank_Share.calls 10000 A0 c0 l t R E w hr0 hc0 (by rw [← hE]; exact own_share l t 10000 (Nat.le_refl _))
theorem share_r (hr0 : Kd.C (Kd.int .i64) w A0 l.length l) (hc0 : l.length ≤ c0) (hl : l.length < 17592186044416) (hE : shareL l t = (R, E)) : Calls Try.prog 17 #[.slice A0 l.length c0, .int .i64 t] w fun e w' => ∃ v : Value, e = .returned (.tuple #[v, .int .i64 E]) ∧ RowOf 2 w w' v R := by
  obtain ⟨K, hK⟩ := ref_share l t hl
  exact r07_Share.calls K A0 c0 l t R E w hr0 hc0 (by rw [← hE]; exact hK K (Nat.le_refl _))
theorem ints_c (hr0 : Kd.C (Kd.int .i64) w A0 m.length m) (hc0 : m.length ≤ c0) (hr1 : Kd.C (Kd.int .i64) w A1 m.length m) (hc1 : m.length ≤ c1) (hl : m.length < 17592186044416) : Calls Try.prog 21 #[.slice A0 m.length c0, .slice A1 m.length c1] w fun e w' => e = .returned (.bool true) ∧ Drawn0 w w' :=
  w07_ints.calls (m.length + 1) A0 c0 m A1 c1 m _ w hr0 hc0 hr1 hc1 (own_ints m (by omega) _ (Nat.le_refl _))
theorem longs_c (hr0 : Kd.C (Kd.int .i64) w A0 m.length m) (hc0 : m.length ≤ c0) (hr1 : Kd.C (Kd.int .i64) w A1 m.length m) (hc1 : m.length ≤ c1) (hl : m.length < 17592186044416) : Calls Try.prog 18 #[.slice A0 m.length c0, .slice A1 m.length c1] w fun e w' => e = .returned (.bool true) ∧ Drawn0 w w' :=
  w07_longs.calls (m.length + 1) A0 c0 m A1 c1 m _ w hr0 hc0 hr1 hc1 (own_longs m (by omega) _ (Nat.le_refl _))
theorem awake_c : Calls Try.prog 15 #[] w fun e w' => e = .returned (.bool true) ∧ Below w.heap.size w w' :=
  w07_awake.calls 10000 _ w (awake 10000 (Nat.le_refl _))
end
end Go.Proofs.Ytfegaffcalpmbaa.Rm
