/- A queue and a block beside it. -/
import Derived.Test.YtgolghimefageaaQWJ
namespace Go.Proofs.Ytgolghimefageaa.QW
set_option linter.unusedVariables false
open Go.Proofs Go.RowKit Go.Shelf Go.Lib Go.Maps Go.Proofs.YtgolghimefageaaW.PrintWords Go.Proofs.YtgolghimefageaaW.PrintLast Go.Proofs.YtgolghimefageaaW.PrintMore Go.Proofs.Ytgolghimefageaa.St
/-- A block beside the queue. -/
def Fx (B : Nat) (o : Option Obj) (P : Nat → Prop) (W : World) : Prop := ∀ x, o = some x → ¬ P B ∧ W.heap[B]? = some x
theorem Fx.step {B : Nat} {o : Option Obj} {P : Nat → Prop} {W W' : World} (h : Fx B o P W) (hk : Kept W W' P) : Fx B o (fun k => (P k ∨ W.heap.size ≤ k) ∧ k < W'.heap.size) W' := by
  intro x hx
  obtain ⟨h1, h2⟩ := h x hx
  have hlt := (Array.getElem?_eq_some_iff.1 h2).1
  refine ⟨fun h3 => ?_, blk_kept h2 hk h1⟩
  rcases h3.1 with h3 | h3
  · exact h1 h3
  · omega
theorem QAt.tight {n0 : Nat} {w : World} {P : Nat → Prop} {b : Nat} {vl : Value} {mb nm : Nat} {E : List El} {most came next : Int} (h : QAt n0 w P b vl mb nm E most came next) : QAt n0 w (fun k => P k ∧ k < w.heap.size) b vl mb nm E most came next := by
  obtain ⟨D, hm, hD⟩ := h.map
  exact ⟨fun k hk => h.hP k hk.1, ⟨h.pb, h.lt⟩, ⟨h.pm, hm.lt⟩, fun k e => ⟨h.pl k e, (h.row.lt k e).2⟩, fun x hx => ⟨h.pe x hx, (Array.getElem?_eq_some_iff.1 (h.els x hx)).1⟩, h.blk, h.row, h.els, ⟨D, hm, hD⟩, h.good⟩
section
variable {W : World} {b : Nat} {most : Int}
theorem wide {n0 : Nat} {P : Nat → Prop} {W' : World} {vl : Value} {mb nm : Nat} {E : List El} {came nx : Int} (hQ : QAt n0 W' P b vl mb nm E most came nx) (hn : n0 ≤ W.heap.size) : QAt n0 W' (fun k => P k ∨ W.heap.size ≤ k) b vl mb nm E most came nx :=
  hQ.mono (fun k h => .inl h) (fun k h => h.elim (hQ.hP k) (fun h => Nat.le_trans hn h))
end
theorem index_of {E : List El} {x : El} (h : x ∈ E) : ∃ j, j < E.length ∧ E[j]! = x := by
  obtain ⟨j, hj, e⟩ := List.getElem_of_mem h
  exact ⟨j, hj, by rw [getElem!_pos E j hj]; exact e⟩
end Go.Proofs.Ytgolghimefageaa.QW
