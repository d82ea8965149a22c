/- A queue: PopLast, First. -/
import Derived.Test.YtgolghimefageaaQSJ
namespace Go.Proofs.Ytgolghimefageaa.QS
open Go.Proofs Go.RowKit Go.Shelf Go.Lib Go.Maps Go.Proofs.YtgolghimefageaaW.PrintWords Go.Proofs.YtgolghimefageaaW.PrintLast Go.Proofs.YtgolghimefageaaW.PrintMore Go.Proofs.Ytgolghimefageaa.St
section
variable {n0 : Nat} {w : World} {P : Nat → Prop} {b : Nat} {vl : Value} {mb nm : Nat} {E : List El} {most came next : Int}
set_option maxRecDepth 100000 in
set_option maxHeartbeats 1000000 in
theorem poplast_some (h : QAt n0 w P b vl mb nm E most came next) (hE : 0 < E.length) (hE2 : E.length ≤ 65536) (hnx : next < 4611686018427387904) :
    Calls Try.prog 11 #[.pointer (some ⟨b, 0, none⟩)] w fun e w' => e = .returned (.tuple #[(.string E[E.length - 1]!.k), (.int .i64 E[E.length - 1]!.v), .int .i64 E[E.length - 1]!.ticket, .bool true]) ∧ ∃ vl', QAt n0 w' P b vl' mb nm (E.eraseIdx (E.length - 1)) most came next ∧ Kept w w' P ∧ Below n0 w w' := by
  have hat := at_last h hE hE2
  have hout0 := (fun w1 (h : QAt n0 w1 P b vl mb nm E most came next) => out_calls h (E.length - 1) (by omega) hE2 hnx)
  have mixed : Try.prog.follows .mixedOrders = true := by kernel_rfl
  obtain ⟨x, hx⟩ : ∃ x, x = E[E.length - 1]! := ⟨_, rfl⟩
  have HQ := Aside0.mk h
  simp only [← hx] at hat hout0 ⊢
  clear h hE hE2 hnx hx
  go_enter Try.func11, Try.ntmps11
  go_wp2_with (first
    | (go_at_call 33; refine hat.mono ?_; rintro e w1 ⟨rfl, q, hq⟩; have H1 := Aside0.mk hq; have hout := hout0 w1 (by rw [hq]; exact HQ.out.below (pw_below_drewN (Below.refl _ _) q)); clear hq hout0)
    | (go_at_call 34; refine hout.mono ?_; rintro e w2 ⟨rfl, vl', hQ, hel, hKB⟩; have c0 : w2.drew.cell? ⟨x.p, 0, none⟩ = some (.string x.k) := hel.cells.1; have c1 : w2.drew.cell? ⟨x.p, 1, none⟩ = some (.int .i64 x.v) := hel.cells.2.1; have c3 : w2.drew.cell? ⟨x.p, 3, none⟩ = some (.int .i64 x.ticket) := hel.cells.2.2.2; have H := Aside0.mk (And.intro hQ hKB); clear hQ hKB hel))
  go_region
  go_wp2
  refine bodyPost_ret (results_tmp4 rfl _ _ _) rfl ?_
  have hK : Kept w w2 P := by have h1 := H.out.2.1; rw [H1.out] at h1; exact h1
  have hB : Below n0 w w2 := by have h1 := H.out.2.2; rw [H1.out] at h1; exact (pw_below_drewN (Below.refl n0 w) q).trans h1
  exact ⟨rfl, vl', H.out.1.below (pw_below_drewN (Below.refl _ _) 1), hK.drew, hB.drew⟩
set_option maxRecDepth 100000 in
set_option maxHeartbeats 1000000 in
theorem first_some (h : QAt n0 w P b vl mb nm E most came next) (hE : 0 < E.length) :
    Calls Try.prog 10 #[.pointer (some ⟨b, 0, none⟩)] w fun e w' => e = .returned (.tuple #[(.string E[0]!.k), (.int .i64 E[0]!.v), .int .i64 E[0]!.ticket, .bool true]) ∧ ∃ q, w' = w.drewN q := by
  have hat := at_first h hE
  have hel := h.els E[0]! (by rw [getElem!_pos E 0 hE]; exact List.getElem_mem hE)
  have mixed : Try.prog.follows .mixedOrders = true := by kernel_rfl
  obtain ⟨x, hx⟩ : ∃ x, x = E[0]! := ⟨_, rfl⟩
  rw [← hx] at hat hel ⊢
  have c0 : w.drew.cell? ⟨x.p, 0, none⟩ = some (.string x.k) := (show ElAt w x from hel).cells.1
  have c1 : w.drew.cell? ⟨x.p, 1, none⟩ = some (.int .i64 x.v) := (show ElAt w x from hel).cells.2.1
  have c3 : w.drew.cell? ⟨x.p, 3, none⟩ = some (.int .i64 x.ticket) := (show ElAt w x from hel).cells.2.2.2
  clear h hE hx hel
  go_enter Try.func10, Try.ntmps10
  go_wp2_with (first
    | (go_at_call 33; refine hat.mono ?_; rintro e w9 ⟨rfl, h9⟩; have h8 := h9.symm; subst h8; clear h9))
  go_region
  go_wp2
  refine bodyPost_ret (results_tmp4 rfl _ _ _) rfl ?_
  exact ⟨rfl, 1, rfl⟩
end
end Go.Proofs.Ytgolghimefageaa.QS
