/- A queue: take, out, at, Pop, PopLast, First. -/
import Derived.Test.YtgolghimefageaaQWH
namespace Go.Proofs.Ytgolghimefageaa.QW
open Go.Proofs Go.RowKit Go.Shelf Go.Lib Go.Maps Go.Proofs.YtgolghimefageaaW.PrintWords Go.Proofs.YtgolghimefageaaW.PrintLast Go.Proofs.YtgolghimefageaaW.PrintMore Go.Proofs.Ytgolghimefageaa.St
theorem perm_erase (E : List El) (i : Nat) (hi : i < E.length) : E.Perm (E[i]! :: E.eraseIdx i) := by
  rw [getElem!_pos E i hi, List.eraseIdx_eq_take_drop_succ]
  have h : E.take i ++ E[i] :: E.drop (i + 1) = E := by rw [List.getElem_cons_drop, List.take_append_drop]
  exact (List.Perm.of_eq h.symm).trans List.perm_middle
theorem erase_len (E : List El) (i : Nat) (hi : i < E.length) : (E.eraseIdx i).length = E.length - 1 := by rw [List.length_eraseIdx, if_pos hi]
theorem Good.erase {E : List El} {came next : Int} (h : Good E came next) (i : Nat) (hi : i < E.length) : Good (E.eraseIdx i) came next ∧ E[i]!.p ∉ (E.eraseIdx i).map El.p ∧ E[i]!.ticket ∉ (E.eraseIdx i).map El.ticket ∧ (0 ≤ E[i]!.ticket ∧ E[i]!.ticket < next) := by
  have hp := perm_erase E i hi
  have h1 := List.nodup_cons.1 ((hp.map El.p).nodup_iff.1 h.nodup)
  have h2 := List.nodup_cons.1 ((hp.map El.ticket).nodup_iff.1 h.tick)
  have h3 := h.range _ (hp.mem_iff.2 List.mem_cons_self)
  exact ⟨⟨h1.2, h2.2, fun x hx => h.range x (hp.mem_iff.2 (List.mem_cons_of_mem _ hx)), h.sorted.sublist (List.eraseIdx_sublist E i)⟩, h1.1, h2.1, h3.1, h3.2.1⟩
section
variable {n0 : Nat} {w : World} {P : Nat → Prop} {b : Nat} {vl : Value} {mb nm : Nat} {E : List El} {most came next : Int}
theorem QAt.taken {w1 : World} {vl' : Value} (h : QAt n0 w P b vl mb nm E most came next) (i : Nat) (hi : i < E.length) (hown : w1.ownsRow n0 100 1 vl' (E.length - 1) (ptrs (E.eraseIdx i))) (hg : w.grownBy w1 vl.ownBlock) (hat : vl'.ownBlock = vl.ownBlock) :
    QMid n0 (w1.setCell ⟨b, 3, none⟩ vl') P b vl' mb nm (E.eraseIdx i) E[i]! most came next := by
  obtain ⟨a1, a2, a3, a4⟩ := h.apart
  obtain ⟨D, hm, hD⟩ := h.map
  obtain ⟨g1, g2, g3, g4⟩ := h.good.erase i hi
  have hp := perm_erase E i hi
  have hk : ∀ {k : Nat} {o : Obj}, w.heap[k]? = some o → vl.ownBlock ≠ some k → w1.heap[k]? = some o := fun {k o} hh hne => (hg.block k (Array.getElem?_eq_some_iff.1 hh).1 (Ne.symm hne)).trans hh
  have helt : ∀ x ∈ E, ElAt (w1.setCell ⟨b, 3, none⟩ vl') x := fun x hx => cells_other (hk (h.els x hx) (a4 x (h.els x hx)).2.2) b 3 _ (a4 x (h.els x hx)).1
  have hi1 : E[i]! ∈ E := hp.mem_iff.2 List.mem_cons_self
  refine ⟨h.hP, h.pb, h.pm, fun k e => h.pl k (hat ▸ e), fun x hx => h.pe x (hp.mem_iff.2 (List.mem_cons_of_mem _ hx)), h.pe _ hi1, cells_set (hk h.blk a2) 3 vl', ?_, fun x hx => helt x (hp.mem_iff.2 (List.mem_cons_of_mem _ hx)), helt _ hi1, ⟨D, (hm.kept hg (Ne.symm a3)).setCell (a := ⟨b, 3, none⟩) (Ne.symm a1) _, hD.perm hp⟩, g1, g2, g3, g4⟩
  rw [erase_len E i hi]
  exact set_other hown b 3 _ (by rw [hat]; exact a2)
end
set_option maxRecDepth 100000 in
set_option maxHeartbeats 2000000 in
theorem take_calls {n0 : Nat} {w : World} {P : Nat → Prop} {b : Nat} {vl : Value} {mb nm : Nat} {E : List El} {most came next : Int} (h : QAt n0 w P b vl mb nm E most came next) (i : Nat) (hi : i < E.length) (hE : E.length ≤ 65536) :
    Calls Try.prog 47 #[.pointer (some ⟨b, 0, none⟩), .pointer (some ⟨E[i]!.p, 0, none⟩)] w fun e w' => e = .returned (.tuple #[]) ∧ ∃ vl', QMid n0 w' P b vl' mb nm (E.eraseIdx i) E[i]! most came next ∧ Kept w w' P ∧ Below n0 w w' := by
  have hidx := index_calls h.row h.els i hi hE h.good.nodup
  have hdel := delete_calls h.row i hi hE
  have c3 := h.c3
  have f3 := h.frozen 3
  have hne := h.apart.2.1
  have hlt := h.lt
  have H := Aside0.mk h
  have HI := Go.Lib.hid hi
  have HA := Aside0.mk (And.intro hne hlt)
  have hz : wrap64 ((i : Int) + 1) = (i : Int) + 1 := by unfold wrap64; omega
  obtain ⟨va, vc, hvl⟩ := own_form h.row
  subst hvl
  obtain ⟨p, hp⟩ : ∃ p, p = E[i]!.p := ⟨_, rfl⟩
  rw [← hp] at hidx ⊢
  have HPP := Go.Lib.hid hp
  clear h hi hE hne hlt hp
  go_enter Try.func47, Try.ntmps47
  go_wp2_with (first
    | (go_at_call 60; refine hidx.mono ?_; rintro e w9 ⟨rfl, h9⟩; have h8 := h9.symm; subst h8; clear h9)
    | (go_at_call 61; refine hdel.mono ?_; rintro e w4 ⟨vl', rfl, hown4, hg4, hat⟩; have c4 := hg4.cell c3 (Ne.symm HA.out.1); have f4 : w4.frozen? ⟨b, 3, none⟩ = false := (World.frozen?_of_block (hg4.block b HA.out.2 (Ne.symm HA.out.1))).trans f3; have H4 := Aside0.mk (And.intro hown4 (And.intro hg4 hat)); obtain ⟨va4, vc4, hv4⟩ := own_form hown4; subst hv4; clear hown4 hg4 hat c3 f3))
  go_end0
  have h := H.out
  obtain ⟨hown4, hg4, hat⟩ := H4.out
  refine ⟨rfl, _, h.taken i HI.out hown4 hg4 hat, (Kept.of_grown hg4 (Kept.refl _ _) (fun k hk => .inl (h.pl k hk))).setCell (p := ⟨b, 3, none⟩) (.inl h.pb) _, ?_⟩
  have hb := h.hP _ h.pb
  have hl := h.lt
  exact ((Below.refl n0 _).grown hg4 (by omega) (fun k hk => h.hP k (h.pl k hk))).setCell (p := ⟨b, 3, none⟩) hb _
set_option maxRecDepth 100000 in
/-- The map forgets y. -/
theorem QMid.leaves {n0 : Nat} {w : World} {P : Nat → Prop} {b : Nat} {vl : Value} {mb nm : Nat} {E : List El} {y : El} {most came next : Int} (h : QMid n0 w P b vl mb nm E y most came next) (hnx : next < 4611686018427387904) :
    ∃ w5, (Builtin.delete_ #[96, 3] 0 #[.map (some mb), .int .i64 y.ticket]).run Try.prog w.drew = .ok (.tuple #[]) w5 ∧ QAt n0 w5 P b vl mb nm E most came next ∧ ElAt w5 y ∧ Kept w w5 P ∧ Below n0 w w5 := by
  obtain ⟨a1, a2, a3, a4, a5, a6, a7⟩ := h.apart
  obtain ⟨D, hm, hD⟩ := h.map
  obtain ⟨w5, hrun, hown5, ht⟩ := (show w.drew.ownsMap Try.prog 3 ptrR mb nm D from hm).drop keyed_i Try.underlying96 (key_of (n := y.ticket) (by have := h.rng; omega)) 0
  have hg := ht.grown
  have hk5 : ∀ {k : Nat} {o : Obj}, w.heap[k]? = some o → k ≠ mb → w5.heap[k]? = some o := fun {k o} hh hne => (hg.block k (Array.getElem?_eq_some_iff.1 hh).1 (fun e => hne (by injection e))).trans hh
  have hlt := h.lt
  have hb := h.hP _ h.pb
  refine ⟨w5, hrun, ⟨h.hP, h.pb, h.pm, h.pl, h.pe, hk5 h.blk a1, own_move h.row (fun k e => hg.block k (h.row.lt k e).2 (fun e2 => a3 (by injection e2 with e2; rw [← e2]; exact e))), fun x hx => hk5 (h.els x hx) (a7 x hx).2.1, ⟨_, hown5, hD.gone h.ft⟩, h.good⟩, hk5 h.ely a5, ?_, ?_⟩
  · exact Kept.of_grown hg ((Kept.refl w P).drew) (fun k e => by cases e; exact .inl h.pm)
  · exact ((Below.refl n0 w).drew).grown hg (by show n0 ≤ w.heap.size; omega) (fun k e => by cases e; exact h.hP _ h.pm)
set_option maxRecDepth 100000 in
set_option maxHeartbeats 2000000 in
theorem out_calls {n0 : Nat} {w : World} {P : Nat → Prop} {b : Nat} {vl : Value} {mb nm : Nat} {E : List El} {most came next : Int} (h : QAt n0 w P b vl mb nm E most came next) (i : Nat) (hi : i < E.length) (hE : E.length ≤ 65536) (hnx : next < 4611686018427387904) :
    Calls Try.prog 44 #[.pointer (some ⟨b, 0, none⟩), .pointer (some ⟨E[i]!.p, 0, none⟩)] w fun e w' => e = .returned (.tuple #[]) ∧ ∃ vl', QAt n0 w' P b vl' mb nm (E.eraseIdx i) most came next ∧ ElAt w' E[i]! ∧ Kept w w' P ∧ Below n0 w w' := by
  have htake := take_calls h i hi hE
  have mixed : Try.prog.follows .mixedOrders = true := by kernel_rfl
  have HN := Go.Lib.hid hnx
  obtain ⟨x, hx⟩ : ∃ x, x = E[i]! := ⟨_, rfl⟩
  rw [← hx] at htake ⊢
  clear h hi hE hx hnx
  go_enter Try.func44, Try.ntmps44
  go_wp2_with (go_at_call 47; refine htake.mono ?_; rintro e w2 ⟨rfl, vl', hQ, hK, hB⟩; obtain ⟨w5, hrun, hQ5, hel, hK5, hB5⟩ := hQ.leaves HN.out; have c4 : w2.drew.cell? ⟨b, 4, none⟩ = some (.map (some mb)) := cells_at hQ.blk 4 _ rfl; have t4 : w2.drew.cell? ⟨x.p, 3, none⟩ = some (.int .i64 x.ticket) := hQ.ely.cells.2.2.2; have H5 := Aside0.mk (And.intro hQ5 (And.intro hel (And.intro (hK.then_ hK5 (fun k h => .inl h)) (hB.trans hB5)))); clear hQ hK hB hQ5 hel hK5 hB5)
  go_region
  go_wp2
  go_end0
  exact ⟨rfl, _, H5.out⟩
end Go.Proofs.Ytgolghimefageaa.QW
