/- A queue: by, Get, Remove, Clear. -/
import Derived.Test.YtgolghimefageaaQWJ
namespace Go.Proofs.Ytgolghimefageaa.QW
open Go.Proofs Go.RowKit Go.Shelf Go.Lib Go.Maps Go.Proofs.YtgolghimefageaaW.PrintWords Go.Proofs.YtgolghimefageaaW.PrintLast Go.Proofs.YtgolghimefageaaW.PrintMore Go.Proofs.Ytgolghimefageaa.St
theorem zero_ptr (w : World) : (zeroValue 100).run Try.prog w = .ok (.pointer none) w := Try.zeroValue100 w
section
variable {n0 : Nat} {w : World} {P : Nat → Prop} {b : Nat} {vl : Value} {mb nm : Nat} {E : List El} {most came next : Int}
set_option maxRecDepth 100000 in
theorem by_yes (h : QAt n0 w P b vl mb nm E most came next) (i : Nat) (hi : i < E.length) (hnx : next < 4611686018427387904) :
    Calls Try.prog 46 #[.pointer (some ⟨b, 0, none⟩), .int .i64 E[i]!.ticket] w fun e w' => e = .returned (.tuple #[.pointer (some ⟨E[i]!.p, 0, none⟩), .bool true]) ∧ w' = w := by
  obtain ⟨D, hm, hD⟩ := h.map
  have hx : E[i]! ∈ E := by rw [getElem!_pos E i hi]; exact List.getElem_mem hi
  obtain ⟨v, ps, hrun, hv⟩ := hm.look_ok keyed_i Try.underlying96 (zero_ptr w) ptrR_none (key_of (n := E[i]!.ticket) (by have := h.good.range _ hx; omega))
  rw [hD.has, List.any_eq_true.2 ⟨_, hx, decide_eq_true rfl⟩] at hrun
  rw [hD.at_ _ hx] at hv
  have hv2 := ptrR_inv hv
  subst hv2
  have c4 := h.c4
  have eq := eqp ⟨b, 0, none⟩
  obtain ⟨x, hxx⟩ : ∃ x, x = E[i]! := ⟨_, rfl⟩
  rw [← hxx] at hrun ⊢
  clear h hm hD hx hv hxx hi
  go_enter Try.func46, Try.ntmps46
  go_wp2
  go_ret2
  exact ⟨rfl, rfl⟩
set_option maxRecDepth 100000 in
theorem by_no (h : QAt n0 w P b vl mb nm E most came next) (t : Int) (ht : -9223372036854775808 ≤ t ∧ t ≤ 9223372036854775807) (hno : ∀ x ∈ E, x.ticket ≠ t) :
    Calls Try.prog 46 #[.pointer (some ⟨b, 0, none⟩), .int .i64 t] w fun e w' => e = .returned (.tuple #[.pointer (some ⟨w.heap.size, 0, none⟩), .bool false]) ∧ w' = w.alloc (.cells elZ 102) := by
  obtain ⟨D, hm, hD⟩ := h.map
  obtain ⟨v, ps, hrun, hv⟩ := hm.look_ok keyed_i Try.underlying96 (zero_ptr w) ptrR_none (key_of ht)
  have hh : Maps.has D (.int .i64 t) = false := by
    rw [hD.has, List.any_eq_false]
    intro x hx
    simpa using hno x hx
  rw [hh] at hrun
  have c4 := h.c4
  have eq := eqp ⟨b, 0, none⟩
  clear h hm hD hv hno ht hh
  go_enter Try.func46, Try.ntmps46
  go_wp2
  go_ret2
  exact ⟨rfl, rfl⟩
end
theorem results_tmp3 {fn : Func} {t u v : Tmp} (h : fn.results = #[.tmp t, .tmp u, .tmp v]) (tmps : Array Value) (P : Program) (w : World) :
    (results fn tmps).run P w = .ok (.tuple #[tmps.getD t undef, tmps.getD u undef, tmps.getD v undef]) w := by
  simp [results, h]
section
variable {n0 : Nat} {w : World} {P : Nat → Prop} {b : Nat} {vl : Value} {mb nm : Nat} {E : List El} {most came next : Int}
set_option maxRecDepth 100000 in
theorem remove_yes (h : QAt n0 w P b vl mb nm E most came next) (i : Nat) (hi : i < E.length) (hE : E.length ≤ 65536) (hnx : next < 4611686018427387904) :
    Calls Try.prog 30 #[.pointer (some ⟨b, 0, none⟩), .int .i64 E[i]!.ticket] w fun e w' => e = .returned (.tuple #[(.int .i64 E[i]!.v), .bool true]) ∧ ∃ vl', QAt n0 w' P b vl' mb nm (E.eraseIdx i) most came next ∧ Kept w w' P ∧ Below n0 w w' := by
  have hby := by_yes h i hi hnx
  have hout := out_calls h i hi hE hnx
  obtain ⟨x, hx⟩ : ∃ x, x = E[i]! := ⟨_, rfl⟩
  rw [← hx] at hby hout ⊢
  clear h hi hx hE hnx
  go_enter Try.func30, Try.ntmps30
  go_wp2_with (first
    | (go_at_call 46; refine hby.mono ?_; rintro e w9 ⟨rfl, h9⟩; have h8 := h9.symm; subst h8; clear h9)
    | (go_at_call 44; refine hout.mono ?_; rintro e w2 ⟨rfl, vl', hQ, hel, hKB⟩; have c1 : w2.cell? ⟨x.p, 1, none⟩ = some (.int .i64 x.v) := hel.cells.2.1; have H := Aside0.mk (And.intro hQ hKB); clear hQ hKB hel))
  go_ret2
  exact ⟨rfl, vl', H.out⟩
set_option maxRecDepth 100000 in
theorem remove_no (h : QAt n0 w P b vl mb nm E most came next) (t : Int) (ht : -9223372036854775808 ≤ t ∧ t ≤ 9223372036854775807) (hno : ∀ x ∈ E, x.ticket ≠ t) :
    Calls Try.prog 30 #[.pointer (some ⟨b, 0, none⟩), .int .i64 t] w fun e w' => e = .returned (.tuple #[(.int .i64 0), .bool false]) ∧ Below w.heap.size w w' := by
  have hby := by_no h t ht hno
  obtain ⟨w1, h1⟩ : ∃ w1, w1 = w.alloc (.cells elZ 102) := ⟨_, rfl⟩
  rw [← h1] at hby
  have hel : w1.heap[w.heap.size]? = some (.cells elZ 102 (0, 0)) := by rw [h1]; exact heap_alloc_new w _
  have c1 : w1.cell? ⟨w.heap.size, 1, none⟩ = some (.int .i64 0) := cells_at hel 1 _ rfl
  have HB : Aside0 (Below w.heap.size w w1) := ⟨by rw [h1]; exact below_alloc (Below.refl _ w) _⟩
  clear h h1 hel ht hno
  go_enter Try.func30, Try.ntmps30
  go_wp2_with (go_at_call 46; refine hby.mono ?_; rintro e w9 ⟨rfl, h9⟩; have h8 := h9.symm; subst h8; clear h9)
  go_ret2
  exact ⟨rfl, HB.out⟩
set_option maxRecDepth 100000 in
theorem clear_calls (h : QAt n0 w P b vl mb nm E most came next) :
    Calls Try.prog 27 #[.pointer (some ⟨b, 0, none⟩)] w fun e w' => e = .returned (.tuple #[]) ∧ QAt n0 w' P b (.slice none 0 0) mb 0 [] most came next ∧ Kept w w' P ∧ Below n0 w w' := by
  obtain ⟨a1, a2, a3, a4⟩ := h.apart
  obtain ⟨D, hm, hD⟩ := h.map
  have hb := h.hP _ h.pb
  have hlt := h.lt
  have hm1 : (w.setCell ⟨b, 3, none⟩ (.slice none 0 0)).ownsMap Try.prog 3 ptrR mb nm D := hm.setCell (a := ⟨b, 3, none⟩) (Ne.symm a1) _
  have hbl := cells_set h.blk 3 (.slice none 0 0)
  obtain ⟨w5, hrun, hown5, ht⟩ := clear_own hm1 Try.underlying96 0
  have hg := ht.grown
  have c3 := h.c3
  have f3 := h.frozen 3
  have c4 : (w.setCell ⟨b, 3, none⟩ (.slice none 0 0)).cell? ⟨b, 4, none⟩ = some (.map (some mb)) := cells_at hbl 4 _ rfl
  have ne := nep ⟨b, 0, none⟩
  have hbl5 : w5.heap[b]? = some (.cells #[.int .i64 most, .int .i64 came, .int .i64 next, .slice none 0 0, .map (some mb)] 99 (0, 0)) := (hg.block b (by simpa using hlt) (fun e => a1 (by injection e))).trans hbl
  have H : Aside0 (QAt n0 w5 P b (.slice none 0 0) mb 0 [] most came next ∧ Kept w w5 P ∧ Below n0 w w5) := by
    refine ⟨⟨h.hP, h.pb, h.pm, (fun k e => by cases e), (fun x hx => by cases hx), hbl5, World.ownsRow_nil _ _ _ _, (fun x hx => by cases hx), ⟨_, hown5, ⟨fun t => rfl, (fun x hx => by cases hx)⟩⟩, ⟨List.nodup_nil, List.nodup_nil, (fun x hx => by cases hx), List.Pairwise.nil⟩⟩, ?_, ?_⟩
    · exact Kept.of_grown hg ((Kept.refl w P).setCell (p := ⟨b, 3, none⟩) (.inl h.pb) _) (fun k e => by cases e; exact .inl h.pm)
    · exact ((Below.refl n0 w).setCell (p := ⟨b, 3, none⟩) hb _).grown hg (by simp; omega) (fun k e => by cases e; exact h.hP _ h.pm)
  clear h hm hD hb hlt hm1 hbl hown5 ht hg hbl5 a1 a2 a3 a4
  go_enter Try.func27, Try.ntmps27
  go_wp2
  go_end0
  exact ⟨rfl, H.out⟩
end
end Go.Proofs.Ytgolghimefageaa.QW
