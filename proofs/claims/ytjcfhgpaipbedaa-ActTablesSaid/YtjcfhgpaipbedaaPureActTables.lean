/- ActTables: every Table is the document's, each time anew. -/
import Derived.Test.YtjcfhgpaipbedaaStmtActTables
import Derived.Test.YtjcfhgpaipbedaaAct1
namespace Go.Proofs.Ytjcfhgpaipbedaa.Pure
set_option linter.unusedVariables false
open Go.RowKit Go.Proofs.YtjcfhgpaipbedaaW.PrintWords Go.Proofs.YtjcfhgpaipbedaaW.PrintLast Go.Proofs.YtjcfhgpaipbedaaW.PrintMore Go.Proofs.Ytjcfhgpaipbedaa.A Go.Proofs.Ytjcfhgpaipbedaa.St
theorem up_of {α : Type} {g : Nat → Option α} {r : α} (K : Nat) (mono : ∀ k, LeO (g k) (g (k + 1))) (h : g K = some r) : Ev g r := Ev.of mono h
set_option maxRecDepth 100000 in
theorem tab_same : ∀ i : Fin 3, (act_Table.f ((i.1 : Int) + 1)) = r12_Table.f 400 ((i.1 : Int) + 1) ∧ (act_Table.f ((i.1 : Int) + 1)).isSome = true := by decide +kernel
theorem table_len {a : Int} {l : List Int} {e : Int} (h : act_Table.f a = some (l, e)) : l.length ≤ 256 := by
  unfold act_Table.f at h
  split at h
  · injection h with h
    split at h
    · injection h with h1 _; rw [← h1, List.length_map, List.length_range]; exact Nat.le_refl _
    split at h
    · injection h with h1 _; rw [← h1, List.length_map, List.length_range]; exact Nat.le_refl _
    split at h
    · injection h with h1 _; rw [← h1, List.length_map, List.length_range]; exact Nat.le_refl _
    · injection h with h1 _; rw [← h1]; exact Nat.zero_le _
  · cases h
theorem tables (a : Int) (ha : -9223372036854775808 ≤ a ∧ a ≤ 9223372036854775807) : ∃ l e, act_Table.f a = some (l, e) ∧ Ev (fun k => r12_Table.f k a) (l, e) := by
  by_cases c : 1 ≤ a ∧ a ≤ 3
  · obtain ⟨i, rfl⟩ : ∃ i : Fin 3, a = (i.1 : Int) + 1 := ⟨⟨(a - 1).toNat, by omega⟩, by show a = (((a - 1).toNat : Nat) : Int) + 1; omega⟩
    obtain ⟨h1, h2⟩ := tab_same i
    obtain ⟨⟨l, e⟩, h3⟩ := Option.isSome_iff_exists.1 h2
    refine ⟨l, e, h3, ?_⟩
    rw [h3] at h1
    exact up_of 400 (fun k => r12_Table.mono _ k) h1.symm
  · refine ⟨[], 121, ?_, ?_⟩
    · unfold act_Table.f
      rw [if_pos ha, if_neg (by omega), if_neg (by omega), if_neg (by omega)]
    · unfold r12_Table.f
      by_cases c1 : a < 1
      · refine ev_pos c1 (Ev.step (fun k => by rw [r12_Table.j0]) ?_)
        exact ev_pos rfl (Ev.now _)
      · refine ev_neg c1 ?_
        rw [decide_eq_true (by omega)]
        refine Ev.step (fun k => by rw [r12_Table.j0]) ?_
        exact ev_pos rfl (Ev.now _)
theorem mark_l (a r : Int) (R : Bool) (n : Nat) (hn : n ≤ 256) (hk : Ev (fun k => w12_ActTables.l0 k a (wrap64 (r + 1))) R) : ∀ (d i : Nat) (l : List Int), n - i = d → i ≤ n → l.length = n → Ev (fun k => w12_ActTables.l1 k a l r (n : Int) (i : Int)) R
  | d, i, l, hd, hi, hl => by
    refine Ev.step (fun k => by rw [w12_ActTables.l1]) ?_
    by_cases c : i < n
    · obtain ⟨d, rfl⟩ : ∃ e, d = e + 1 := ⟨d - 1, by omega⟩
      rw [w1 i (by omega)]
      exact ev_pos (by omega) (ev_pos (by omega) (ev_pos (by omega) (mark_l a r R n hn hk d (i + 1) _ (by omega) (by omega) (by rw [List.length_set]; exact hl))))
    · exact ev_neg (by omega) hk
theorem rounds2 (a : Int) (ha : -9223372036854775808 ≤ a ∧ a ≤ 9223372036854775807) : ∀ (d i : Nat), 2 - i = d → i ≤ 2 → Ev (fun k => w12_ActTables.l0 k a (i : Int)) true
  | d, i, hd, hi => by
    refine Ev.step (fun k => by rw [w12_ActTables.l0]) ?_
    by_cases c : i < 2
    · obtain ⟨d, rfl⟩ : ∃ e, d = e + 1 := ⟨d - 1, by omega⟩
      obtain ⟨l, e, h1, h2⟩ := tables a ha
      have hl := table_len h1
      have hgo := rounds2 a ha d (i + 1) (by omega) (by omega)
      refine ev_pos (by omega) (ev_is h1 (Ev.bind h2 (Ev.bind (same8 l (by omega)) (ev_pos rfl ?_))))
      rw [bne_self_eq_false]
      refine Ev.step (fun k => by rw [w12_ActTables.j1]) ?_
      refine ev_neg (by decide) (mark_l a _ true l.length hl ?_ _ 0 l rfl (Nat.zero_le _) rfl)
      rw [w1 i (by omega)]
      exact hgo
    · exact ev_neg (by omega) (Ev.now _)
theorem ActTables : w12_ActTables.Plain := by
  intro a ha
  have ha' : -9223372036854775808 ≤ a ∧ a ≤ 9223372036854775807 := by
    have h' : (decide (IntKind.i64.min ≤ a) && decide (a ≤ IntKind.i64.max)) = true := ha
    rw [Bool.and_eq_true, decide_eq_true_eq, decide_eq_true_eq] at h'
    exact h'
  refine ev_rounds ?_
  unfold w12_ActTables.f
  exact Ev.bind awake (ev_pos rfl (rounds2 a ha' _ 0 rfl (Nat.zero_le _)))
end Go.Proofs.Ytjcfhgpaipbedaa.Pure
