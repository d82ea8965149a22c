/- A queue: at, Pop, PopLast, First; Put that is refused. -/
import Derived.Test.YtgolghimefageaaQWI
namespace Go.Proofs.Ytgolghimefageaa.QW
open Go.Proofs Go.RowKit Go.Shelf Go.Lib Go.Maps Go.Proofs.YtgolghimefageaaW.PrintWords Go.Proofs.YtgolghimefageaaW.PrintLast Go.Proofs.YtgolghimefageaaW.PrintMore Go.Proofs.Ytgolghimefageaa.St
theorem results_tmp4 {fn : Func} {t u v x : Tmp} (h : fn.results = #[.tmp t, .tmp u, .tmp v, .tmp x]) (tmps : Array Value) (P : Program) (w : World) :
    (results fn tmps).run P w = .ok (.tuple #[tmps.getD t undef, tmps.getD u undef, tmps.getD v undef, tmps.getD x undef]) w := by
  simp [results, h]
section
variable {n0 : Nat} {w : World} {P : Nat → Prop} {b : Nat} {vl : Value} {mb nm : Nat} {E : List El} {most came next : Int}
set_option maxRecDepth 100000 in
theorem put_full (h : QAt n0 w P b vl mb nm E most came next) (k : Int) (v : Int) (hroom : most ≤ (E.length : Int)) :
    Calls Try.prog 23 #[.pointer (some ⟨b, 0, none⟩), (.int .i64 k), (.int .i64 v)] w fun e w' => e = .returned (.tuple #[.int .i64 0, .int .i64 61]) ∧ ∃ q, w' = w.drewN q := by
  obtain ⟨va, vc, hvl⟩ := own_form h.row
  subst hvl
  have eq := eqp ⟨b, 0, none⟩
  have mixed : Try.prog.follows .mixedOrders = true := by kernel_rfl
  have c0 : w.drew.cell? ⟨b, 0, none⟩ = some (.int .i64 most) := h.c0
  have c3 : w.drew.cell? ⟨b, 3, none⟩ = some (.slice va E.length vc) := h.c3
  have hr : decide ((most : Int) ≤ (E.length : Int)) = true := decide_eq_true (by omega)
  clear h hroom
  go_enter Try.func23, Try.ntmps23
  go_wp2_with fail
  go_region
  go_wp2_with fail
  go_ret2
  exact ⟨rfl, 1, rfl⟩
set_option maxRecDepth 100000 in
theorem at_first (h : QAt n0 w P b vl mb nm E most came next) (hE : 0 < E.length) :
    Calls Try.prog 43 #[.pointer (some ⟨b, 0, none⟩), .bool false] w fun e w' => e = .returned (.tuple #[.pointer (some ⟨E[0]!.p, 0, none⟩), .bool true]) ∧ w' = w := by
  have hlen := len_calls h
  have c3 := h.c3
  obtain ⟨g, cap, rfl, _, _⟩ := own_some h.row hE
  have cg := own_cell h.row 0 (.pointer (some ⟨E[0]!.p, 0, none⟩)) (by unfold ptrs; rw [List.getElem?_map, List.getElem?_eq_getElem hE, getElem!_pos E 0 hE]; rfl)
  obtain ⟨p, hp⟩ : ∃ p, p = E[0]!.p := ⟨_, rfl⟩
  rw [← hp] at cg ⊢
  have hz : ((E.length : Int) == 0) = false := beq_eq_false_iff_ne.2 (by omega)
  have hz2 : (0 : Int) < (E.length : Int) := by omega
  clear h hp
  go_enter Try.func43, Try.ntmps43
  go_wp2_with (go_at_call 31; refine hlen.mono ?_; rintro e w9 ⟨rfl, h9⟩; have h8 := h9.symm; subst h8; clear h9)
  go_ret2
  exact ⟨rfl, rfl⟩
set_option maxRecDepth 100000 in
theorem at_last (h : QAt n0 w P b vl mb nm E most came next) (hE : 0 < E.length) (hE2 : E.length ≤ 65536) :
    Calls Try.prog 43 #[.pointer (some ⟨b, 0, none⟩), .bool true] w fun e w' => e = .returned (.tuple #[.pointer (some ⟨E[E.length - 1]!.p, 0, none⟩), .bool true]) ∧ ∃ q, w' = w.drewN q := by
  have hlen := len_calls h
  obtain ⟨g, cap, rfl, _, _⟩ := own_some h.row hE
  have c3 : w.drew.cell? ⟨b, 3, none⟩ = some (.slice (some ⟨g, 0, none⟩) E.length cap) := h.c3
  have cg : w.drew.cell? ⟨g, E.length - 1, none⟩ = some (.pointer (some ⟨E[E.length - 1]!.p, 0, none⟩)) := own_cell h.row (E.length - 1) (.pointer (some ⟨E[E.length - 1]!.p, 0, none⟩)) (by unfold ptrs; rw [List.getElem?_map, List.getElem?_eq_getElem (by omega), getElem!_pos E (E.length - 1) (by omega)]; rfl)
  obtain ⟨p, hp⟩ : ∃ p, p = E[E.length - 1]!.p := ⟨_, rfl⟩
  rw [← hp] at cg ⊢
  obtain ⟨m, hm⟩ : ∃ m, m = E.length - 1 := ⟨_, rfl⟩
  rw [← hm] at cg
  have hz : ((E.length : Int) == 0) = false := beq_eq_false_iff_ne.2 (by omega)
  have hz2 : (m : Int) < (E.length : Int) := by omega
  have hz3 : (0 : Int) ≤ (m : Int) := by omega
  have hz1 : wrap64 ((E.length : Int) - 1) = (m : Int) := by unfold wrap64; omega
  have hz1' : IntKind.i64.wrap ((E.length : Int) - 1) = (m : Int) := by clear hz1; rw [IntKind.wrap_i64]; omega
  have mixed : Try.prog.follows .mixedOrders = true := by kernel_rfl
  clear h hp hm hE hE2
  go_enter Try.func43, Try.ntmps43
  go_wp2_with (go_at_call 31; refine hlen.mono ?_; rintro e w9 ⟨rfl, h9⟩; have h8 := h9.symm; subst h8; clear h9)
  go_region
  go_wp2
  go_ret2
  exact ⟨rfl, 1, rfl⟩
def elZ : Array Value := #[(.int .i64 0), (.int .i64 0), .int .i64 0, .int .i64 0]
set_option maxRecDepth 100000 in
theorem at_none (h : QAt n0 w P b vl mb nm [] most came next) (t : Bool) :
    Calls Try.prog 43 #[.pointer (some ⟨b, 0, none⟩), .bool t] w fun e w' => e = .returned (.tuple #[.pointer (some ⟨w.heap.size, 0, none⟩), .bool false]) ∧ w' = w.alloc (.cells elZ 102) := by
  have hlen := len_calls h
  clear h
  go_enter Try.func43, Try.ntmps43
  go_wp2_with (go_at_call 31; refine hlen.mono ?_; rintro e w9 ⟨rfl, h9⟩; have h8 := h9.symm; subst h8; clear h9)
  go_ret2
  exact ⟨rfl, rfl⟩
set_option maxRecDepth 100000 in
set_option maxHeartbeats 1000000 in
theorem pop_some (h : QAt n0 w P b vl mb nm E most came next) (hE : 0 < E.length) (hE2 : E.length ≤ 65536) (hnx : next < 4611686018427387904) :
    Calls Try.prog 26 #[.pointer (some ⟨b, 0, none⟩)] w fun e w' => e = .returned (.tuple #[(.int .i64 E[0]!.k), (.int .i64 E[0]!.v), .int .i64 E[0]!.ticket, .bool true]) ∧ ∃ vl', QAt n0 w' P b vl' mb nm (E.eraseIdx 0) most came next ∧ Kept w w' P ∧ Below n0 w w' := by
  have hat := at_first h hE
  have hout := out_calls h 0 hE hE2 hnx
  have mixed : Try.prog.follows .mixedOrders = true := by kernel_rfl
  obtain ⟨x, hx⟩ : ∃ x, x = E[0]! := ⟨_, rfl⟩
  rw [← hx] at hat hout ⊢
  clear h hE hE2 hnx hx
  go_enter Try.func26, Try.ntmps26
  go_wp2_with (first
    | (go_at_call 43; refine hat.mono ?_; rintro e w9 ⟨rfl, h9⟩; have h8 := h9.symm; subst h8; clear h9)
    | (go_at_call 44; refine hout.mono ?_; rintro e w2 ⟨rfl, vl', hQ, hel, hKB⟩; have c0 : w2.drew.cell? ⟨x.p, 0, none⟩ = some (.int .i64 x.k) := hel.cells.1; have c1 : w2.drew.cell? ⟨x.p, 1, none⟩ = some (.int .i64 x.v) := hel.cells.2.1; have c3 : w2.drew.cell? ⟨x.p, 3, none⟩ = some (.int .i64 x.ticket) := hel.cells.2.2.2; have H := Aside0.mk (And.intro hQ hKB); clear hQ hKB hel))
  go_region
  go_wp2
  refine bodyPost_ret (results_tmp4 rfl _ _ _) rfl ?_
  exact ⟨rfl, vl', H.out.1.below (pw_below_drewN (Below.refl _ _) 1), H.out.2.1.drew, H.out.2.2.drew⟩
set_option maxRecDepth 100000 in
set_option maxHeartbeats 1000000 in
theorem pop_none (h : QAt n0 w P b vl mb nm [] most came next) :
    Calls Try.prog 26 #[.pointer (some ⟨b, 0, none⟩)] w fun e w' => e = .returned (.tuple #[(.int .i64 0), (.int .i64 0), .int .i64 0, .bool false]) ∧ Below w.heap.size w w' := by
  have hat := at_none h false
  have mixed : Try.prog.follows .mixedOrders = true := by kernel_rfl
  obtain ⟨w1, h1⟩ : ∃ w1, w1 = w.alloc (.cells elZ 102) := ⟨_, rfl⟩
  rw [← h1] at hat
  have hel : w1.drew.heap[w.heap.size]? = some (.cells elZ 102 (0, 0)) := by rw [h1]; exact heap_alloc_new w _
  have c0 : w1.drew.cell? ⟨w.heap.size, 0, none⟩ = some (.int .i64 0) := cells_at hel 0 _ rfl
  have c1 : w1.drew.cell? ⟨w.heap.size, 1, none⟩ = some (.int .i64 0) := cells_at hel 1 _ rfl
  have c3 : w1.drew.cell? ⟨w.heap.size, 3, none⟩ = some (.int .i64 0) := cells_at hel 3 _ rfl
  have HB : Aside0 (Below w.heap.size w w1) := ⟨by rw [h1]; exact below_alloc (Below.refl _ w) _⟩
  clear h h1 hel
  go_enter Try.func26, Try.ntmps26
  go_wp2_with (go_at_call 43; refine hat.mono ?_; rintro e w9 ⟨rfl, h9⟩; have h8 := h9.symm; subst h8; clear h9)
  go_region
  go_wp2
  refine bodyPost_ret (results_tmp4 rfl _ _ _) rfl ?_
  exact ⟨rfl, HB.out.drew⟩
theorem QAt.lower {n1 : Nat} (h : QAt n0 w P b vl mb nm E most came next) (hn : n1 ≤ n0) : QAt n1 w P b vl mb nm E most came next :=
  ⟨fun k hk => Nat.le_trans hn (h.hP k hk), h.pb, h.pm, h.pl, h.pe, h.blk, own_weaken h.row hn, h.els, h.map, h.good⟩
end
end Go.Proofs.Ytgolghimefageaa.QW
