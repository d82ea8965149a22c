/- A queue: Get. -/
import Derived.Test.YtgolghimefageaaQTK
namespace Go.Proofs.Ytgolghimefageaa.QT
open Go.Proofs Go.RowKit Go.Shelf Go.Lib Go.Maps Go.Proofs.YtgolghimefageaaW.PrintWords Go.Proofs.YtgolghimefageaaW.PrintLast Go.Proofs.YtgolghimefageaaW.PrintMore Go.Proofs.Ytgolghimefageaa.St
section
variable {n0 : Nat} {w : World} {P : Nat → Prop} {b : Nat} {vl : Value} {mb nm : Nat} {E : List El} {most came next : Int}
set_option maxRecDepth 100000 in
theorem get_yes (h : QAt n0 w P b vl mb nm E most came next) (i : Nat) (hi : i < E.length) (hnx : next < 4611686018427387904) :
    Calls Try.prog 18 #[.pointer (some ⟨b, 0, none⟩), .int .i64 E[i]!.ticket] w fun e w' => e = .returned (.tuple #[(.int .i64 E[i]!.k), (.string E[i]!.v), .bool true]) ∧ ∃ q, w' = w.drewN q := by
  have hby := by_yes h i hi hnx
  have hel : ElAt w E[i]! := h.els _ (by rw [getElem!_pos E i hi]; exact List.getElem_mem hi)
  have mixed : Try.prog.follows .mixedOrders = true := by kernel_rfl
  obtain ⟨x, hx⟩ : ∃ x, x = E[i]! := ⟨_, rfl⟩
  rw [← hx] at hby hel ⊢
  have c0 : w.drew.cell? ⟨x.p, 0, none⟩ = some (.int .i64 x.k) := hel.cells.1
  have c1 : w.drew.cell? ⟨x.p, 1, none⟩ = some (.string x.v) := hel.cells.2.1
  clear h hi hx hel hnx
  go_enter Try.func18, Try.ntmps18
  go_wp2_with (go_at_call 36; refine hby.mono ?_; rintro e w9 ⟨rfl, h9⟩; have h8 := h9.symm; subst h8; clear h9)
  go_region
  go_wp2
  refine bodyPost_ret (results_tmp3 rfl _ _ _) rfl ?_
  exact ⟨rfl, 1, rfl⟩
set_option maxRecDepth 100000 in
theorem get_no (h : QAt n0 w P b vl mb nm E most came next) (t : Int) (ht : -9223372036854775808 ≤ t ∧ t ≤ 9223372036854775807) (hno : ∀ x ∈ E, x.ticket ≠ t) :
    Calls Try.prog 18 #[.pointer (some ⟨b, 0, none⟩), .int .i64 t] w fun e w' => e = .returned (.tuple #[(.int .i64 0), (.string ByteArray.empty), .bool false]) ∧ Below w.heap.size w w' := by
  have hby := by_no h t ht hno
  have mixed : Try.prog.follows .mixedOrders = true := by kernel_rfl
  obtain ⟨w1, h1⟩ : ∃ w1, w1 = w.alloc (.cells elZ 91) := ⟨_, rfl⟩
  rw [← h1] at hby
  have hel : w1.drew.heap[w.heap.size]? = some (.cells elZ 91 (0, 0)) := by rw [h1]; exact heap_alloc_new w _
  have c0 : w1.drew.cell? ⟨w.heap.size, 0, none⟩ = some (.int .i64 0) := cells_at hel 0 _ rfl
  have c1 : w1.drew.cell? ⟨w.heap.size, 1, none⟩ = some (.string ByteArray.empty) := cells_at hel 1 _ rfl
  have HB : Aside0 (Below w.heap.size w w1) := ⟨by rw [h1]; exact below_alloc (Below.refl _ w) _⟩
  clear h h1 hel ht hno
  go_enter Try.func18, Try.ntmps18
  go_wp2_with (go_at_call 36; refine hby.mono ?_; rintro e w9 ⟨rfl, h9⟩; have h8 := h9.symm; subst h8; clear h9)
  go_region
  go_wp2
  refine bodyPost_ret (results_tmp3 rfl _ _ _) rfl ?_
  exact ⟨rfl, HB.out.drew⟩
end
end Go.Proofs.Ytgolghimefageaa.QT
