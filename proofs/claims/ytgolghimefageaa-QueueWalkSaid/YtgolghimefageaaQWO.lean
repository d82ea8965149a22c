/- A queue: Change. -/
import Derived.Test.YtgolghimefageaaQWK
namespace Go.Proofs.Ytgolghimefageaa.QW
open Go.Proofs Go.RowKit Go.Shelf Go.Lib Go.Maps Go.Proofs.YtgolghimefageaaW.PrintWords Go.Proofs.YtgolghimefageaaW.PrintLast Go.Proofs.YtgolghimefageaaW.PrintMore Go.Proofs.Ytgolghimefageaa.St
section
variable {n0 : Nat} {w : World} {P : Nat → Prop} {b : Nat} {vl : Value} {mb nm : Nat} {E : List El} {most came next : Int}
/-- The element that stands beside has another key. -/
theorem QMid.rekey {y : El} (h : QMid n0 w P b vl mb nm E y most came next) (k : Int) : QMid n0 (w.setCell ⟨y.p, 0, none⟩ (.int .i64 k)) P b vl mb nm E { y with k := k } most came next := by
  obtain ⟨a1, a2, a3, a4, a5, a6, a7⟩ := h.apart
  obtain ⟨D, hm, hD⟩ := h.map
  exact ⟨h.hP, h.pb, h.pm, h.pl, h.pe, h.py, cells_other h.blk y.p 0 _ (Ne.symm a4), set_other h.row y.p 0 _ a6, fun x hx => cells_other (h.els x hx) y.p 0 _ (a7 x hx).2.2.2, cells_set h.ely 0 (.int .i64 k), ⟨D, hm.setCell (a := ⟨y.p, 0, none⟩) (Ne.symm a5) _, hD.key k⟩, h.good, h.fp, h.ft, h.rng⟩
set_option maxRecDepth 100000 in
set_option maxHeartbeats 2000000 in
theorem change_yes (h : QAt n0 w P b vl mb nm E most came next) (i : Nat) (hi : i < E.length) (hE : E.length ≤ 65536) (hnx : next < 4611686018427387904) (hc : 0 ≤ came ∧ came < 4611686018427387904) (k : Int) :
    Calls Try.prog 29 #[.pointer (some ⟨b, 0, none⟩), .int .i64 E[i]!.ticket, (.int .i64 k)] w fun e w' => e = .returned (.bool true) ∧ ∃ vl', QAt n0 w' (fun k => P k ∨ w.heap.size ≤ k) b vl' mb nm (ins (E.eraseIdx i) { E[i]! with k := k, came := came }) most (came + 1) next ∧ Kept w w' P ∧ Below n0 w w' := by
  have hby := by_yes h i hi hnx
  have htake := take_calls h i hi hE
  have hlen : (E.eraseIdx i).length ≤ 65536 := by rw [erase_len E i hi]; omega
  have hPP := Aside0.mk h.hP
  have HN := Go.Lib.hid (And.intro hlen hc)
  have HB0 := Aside0.mk (And.intro (h.hP _ h.pb) h.lt)
  obtain ⟨x, hx⟩ : ∃ x, x = E[i]! := ⟨_, rfl⟩
  rw [← hx] at hby htake ⊢
  clear h hi hx hE hnx hlen hc
  go_enter Try.func29, Try.ntmps29
  go_wp2_with (first
    | (go_at_call 39; refine (place_calls HK2.out.1 HN.out.1 HN.out.2).mono ?_; rintro e w4 ⟨rfl, vl4, hQ4, hK4, hB4⟩; have H4 := Aside0.mk (And.intro hQ4 (And.intro hK4 hB4)); clear hQ4 hK4 hB4)
    | (go_at_call 47; refine htake.mono ?_; rintro e w2 ⟨rfl, vl2, hQ, hK, hB⟩; have c0 : w2.cell? ⟨x.p, 0, none⟩ = some (.int .i64 x.k) := hQ.ely.cells.1; have f0 := frozen_at hQ.ely 0; have HK2 := Aside0.mk (And.intro (hQ.rekey k) (And.intro (hK.setCell (p := ⟨x.p, 0, none⟩) (.inl hQ.py) (.int .i64 k)) (hB.setCell (p := ⟨x.p, 0, none⟩) (hQ.hP _ hQ.py) (.int .i64 k)))); clear hQ hK hB)
    | (go_at_call 46; refine hby.mono ?_; rintro e w9 ⟨rfl, h9⟩; have h8 := h9.symm; subst h8; clear h9))
  go_ret
  have hs : w.heap.size ≤ (w2.setCell ⟨x.p, 0, none⟩ (.int .i64 k)).heap.size := HK2.out.2.1.1
  refine ⟨rfl, vl4, H4.out.1.mono ?_ ?_, HK2.out.2.1.then_ H4.out.2.1 (fun k hk => .inl hk), HK2.out.2.2.trans H4.out.2.2⟩
  · rintro k (hk | hk)
    · exact .inl hk
    · exact .inr (Nat.le_trans hs hk)
  · rintro k (hk | hk)
    · exact hPP.out k hk
    · have := HB0.out; omega
set_option maxRecDepth 100000 in
theorem change_no (h : QAt n0 w P b vl mb nm E most came next) (t : Int) (ht : -9223372036854775808 ≤ t ∧ t ≤ 9223372036854775807) (hno : ∀ x ∈ E, x.ticket ≠ t) (k : Int) :
    Calls Try.prog 29 #[.pointer (some ⟨b, 0, none⟩), .int .i64 t, (.int .i64 k)] w fun e w' => e = .returned (.bool false) ∧ Below w.heap.size w w' := by
  have hby := by_no h t ht hno
  obtain ⟨w1, h1⟩ : ∃ w1, w1 = w.alloc (.cells elZ 102) := ⟨_, rfl⟩
  rw [← h1] at hby
  have HB : Aside0 (Below w.heap.size w w1) := ⟨by rw [h1]; exact below_alloc (Below.refl _ w) _⟩
  clear h h1 ht hno
  go_enter Try.func29, Try.ntmps29
  go_wp2_with (go_at_call 46; refine hby.mono ?_; rintro e w9 ⟨rfl, h9⟩; have h8 := h9.symm; subst h8; clear h9)
  go_ret
  exact ⟨rfl, HB.out⟩
end
end Go.Proofs.Ytgolghimefageaa.QW
