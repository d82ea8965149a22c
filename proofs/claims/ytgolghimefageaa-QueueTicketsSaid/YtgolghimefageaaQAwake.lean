/- awake: two elements come out in their order. -/
import Derived.Test.YtgolghimefageaaQTKG
namespace Go.Proofs.Ytgolghimefageaa.QT
open Go.Proofs Go.RowKit Go.Shelf Go.Lib Go.Maps Go.Proofs.YtgolghimefageaaW.PrintWords Go.Proofs.YtgolghimefageaaW.PrintLast Go.Proofs.YtgolghimefageaaW.PrintMore Go.Proofs.Ytgolghimefageaa.St
def elA (p : Nat) : El := ⟨p, 5, ⟨#[97]⟩, 0, 0⟩
def elB (p : Nat) : El := ⟨p, 3, ⟨#[98]⟩, 1, 1⟩
theorem insB (p1 p2 : Nat) : ins [elA p1] (elB p2) = [elB p2, elA p1] := by
  have h1 : klt 5 3 = false := rfl
  have hna : ¬ Ahead (elA p1) (elB p2) := by
    rintro (h | ⟨h, _⟩)
    · have h2 : klt 5 3 = true := h
      rw [h1] at h2
      cases h2
    · have h2 : (5 : Int) = 3 := h
      omega
  show (if Ahead (elA p1) (elB p2) then elA p1 :: ins [] (elB p2) else elB p2 :: elA p1 :: []) = _
  rw [if_neg hna]
theorem putA {n0 : Nat} {w : World} {P : Nat → Prop} {b : Nat} {vl : Value} {mb : Nat} (h : QAt n0 w P b vl mb 0 [] 2 0 0) : Calls Try.prog 17 #[.pointer (some ⟨b, 0, none⟩), .int .i64 5, .string ⟨#[97]⟩] w fun e w' => e = .returned (.tuple #[.int .i64 0, .int .i64 0]) ∧ ∃ vl' p, QAt n0 w' (fun k => P k ∨ w.heap.size ≤ k) b vl' mb 1 [elA p] 2 1 1 ∧ Below n0 w w' := by
  refine (put_calls h 5 ⟨#[97]⟩ (by simp) (by simp) (by omega) (by omega) (by omega)).mono ?_
  rintro e w' ⟨rfl, vl', p, hQ, _, hB⟩
  exact ⟨rfl, vl', p, hQ, hB⟩
theorem putB {n0 : Nat} {w : World} {P : Nat → Prop} {b : Nat} {vl : Value} {mb p : Nat} (h : QAt n0 w P b vl mb 1 [elA p] 2 1 1) : Calls Try.prog 17 #[.pointer (some ⟨b, 0, none⟩), .int .i64 3, .string ⟨#[98]⟩] w fun e w' => e = .returned (.tuple #[.int .i64 1, .int .i64 0]) ∧ ∃ vl' p2, QAt n0 w' (fun k => P k ∨ w.heap.size ≤ k) b vl' mb 2 [elB p2, elA p] 2 2 2 ∧ Below n0 w w' := by
  refine (put_calls h 3 ⟨#[98]⟩ (by simp) (by simp) (by omega) (by omega) (by omega)).mono ?_
  rintro e w' ⟨rfl, vl', p2, hQ, _, hB⟩
  refine ⟨rfl, vl', p2, ?_, hB⟩
  rw [← insB p p2]
  exact hQ
theorem popB {n0 : Nat} {w : World} {P : Nat → Prop} {b : Nat} {vl : Value} {mb p p2 : Nat} (h : QAt n0 w P b vl mb 2 [elB p2, elA p] 2 2 2) : Calls Try.prog 19 #[.pointer (some ⟨b, 0, none⟩)] w fun e w' => e = .returned (.tuple #[.int .i64 3, .string ⟨#[98]⟩, .int .i64 1, .bool true]) ∧ ∃ vl', QAt n0 w' P b vl' mb 2 [elA p] 2 2 2 ∧ Below n0 w w' := by
  refine (pop_some h (by simp) (by simp) (by omega)).mono ?_
  rintro e w' ⟨rfl, vl', hQ, _, hB⟩
  exact ⟨rfl, vl', hQ, hB⟩
theorem lenA {n0 : Nat} {w : World} {P : Nat → Prop} {b : Nat} {vl : Value} {mb p : Nat} (h : QAt n0 w P b vl mb 2 [elA p] 2 2 2) : Calls Try.prog 16 #[.pointer (some ⟨b, 0, none⟩)] w fun e w' => e = .returned (.int .i64 1) ∧ w' = w := len_calls h
set_option maxRecDepth 100000 in
set_option maxHeartbeats 1000000 in
theorem awake_calls (w : World) : Calls Try.prog 8 #[] w fun e w' => e = .returned (.bool true) ∧ Below w.heap.size w w' := by
  have hnew := new_calls 2 (by omega) w
  go_enter Try.func8, Try.ntmps8
  go_wp2_with (first
    | (go_at_call 16; refine (lenA H4.out.1).mono ?_; rintro e w9 ⟨rfl, h9⟩; have h8 := h9.symm; subst h8; clear h9)
    | (go_at_call 19; refine (popB H3.out.1).mono ?_; rintro e w4 ⟨rfl, vl4, hQ, hB⟩; have H4 := Aside0.mk (And.intro hQ (H3.out.2.trans hB)); clear hQ hB)
    | (go_at_call 17; refine (putB H2.out.1).mono ?_; rintro e w3 ⟨rfl, vl3, p3, hQ, hB⟩; have H3 := Aside0.mk (And.intro hQ (H2.out.2.trans hB)); clear hQ hB)
    | (go_at_call 17; refine (putA H1.out.1).mono ?_; rintro e w2 ⟨rfl, vl2, p2, hQ, hB⟩; have H2 := Aside0.mk (And.intro hQ (H1.out.2.trans hB)); clear hQ hB)
    | (go_at_call 14; refine hnew.mono ?_; rintro e w1 ⟨b, mb, rfl, hQ, hB⟩; have H1 := Aside0.mk (And.intro hQ hB); clear hQ hB hnew; have eqq := eqp ⟨b, 0, none⟩))
  go_ret
  exact ⟨rfl, H4.out.2⟩
end Go.Proofs.Ytgolghimefageaa.QT
