/- QueueWalk: what holds between the calls. -/
import Derived.RangeFuncBox
import Derived.RangeFuncNested
import Derived.Sort.LoopGhostIn
import Derived.Test.YtgolghimefageaaQWalk1
import Derived.Test.YtgolghimefageaaQWalk3
namespace Go.Proofs.Ytgolghimefageaa.QW
set_option linter.unusedVariables false
open Go.Proofs Go.RowKit Go.Shelf Go.Proofs.YtgolghimefageaaW.PrintWords Go.Proofs.YtgolghimefageaaW.PrintLast Go.Proofs.YtgolghimefageaaW.PrintMore Go.Proofs.Ytgolghimefageaa.St
/-- These blocks say what they said. -/
def Hold (W0 : World) (Q : Nat → Prop) (W : World) : Prop := ∀ k, Q k → W.heap[k]? = W0.heap[k]?
theorem hold_own {β : Type} (W0 : World) (Q : Nat → Prop) (hQ : ∀ k, Q k → ∃ c t fr, W0.heap[k]? = some (.cells c t fr)) : Own (fun (_ : β) W => Hold W0 Q W) := by
  intro s X Y row hs hg hrow k hk
  obtain ⟨c, t, fr, hc⟩ := hQ k hk
  have hX : X.heap[k]? = some (.cells c t fr) := (hs k hk).trans hc
  refine (hg.block k (Array.getElem?_eq_some_iff.1 hX).1 (fun e => ?_)).trans (hs k hk)
  obtain ⟨o, ho, hcell⟩ := hrow k e.symm
  rw [hX] at ho
  cases ho
  cases hcell
theorem Hold.kept {W0 W W' : World} {Q P : Nat → Prop} (h : Hold W0 Q W) (hk : Kept W W' P) (hP : ∀ k, Q k → ¬ P k) (hQ : ∀ k, Q k → k < W.heap.size) : Hold W0 Q W' := fun k hq => (hk.2 k (hQ k hq) (hP k hq)).trans (h k hq)
/-- The types of a queue's blocks. -/
def QT (t : TypeId) : Prop := t = 99 ∨ t = 100 ∨ t = 102
/-- Nothing but a queue's blocks have turned. -/
def Quiet (B : Nat) (Q : Nat → Prop) (W W' : World) : Prop := ∃ LF : Nat → Prop, Kept W W' LF ∧ (∀ k, LF k → ¬ Q k) ∧ (∀ k, LF k → (∃ c t, W.heap[k]? = some (.cells c t (0, 0)) ∧ QT t) ∨ (k < B ∧ ∃ es cl, W.heap[k]? = some (.map es cl)))
section
variable {B : Nat} {Q : Nat → Prop} {W W' : World}
theorem Quiet.box (h : Quiet B Q W W') {k : Nat} {c : Array Value} {t : TypeId} (hk : W.heap[k]? = some (.cells c t (0, 0))) (ht : ¬ QT t) : W'.heap[k]? = some (.cells c t (0, 0)) := by
  obtain ⟨LF, h1, h2, h3⟩ := h
  refine blk_kept hk h1 (fun hl => ?_)
  rcases h3 k hl with ⟨c', t', e, ht'⟩ | ⟨_, es, cl, e⟩
  · rw [hk] at e; injection e with e; injection e with _ e _; exact ht (e ▸ ht')
  · rw [hk] at e; cases e
theorem Quiet.obj (h : Quiet B Q W W') {k : Nat} {o : Obj} (hk : W.heap[k]? = some o) (ho : o.isCells = false) (hB : B ≤ k) : W'.heap[k]? = some o := by
  obtain ⟨LF, h1, h2, h3⟩ := h
  refine blk_kept hk h1 (fun hl => ?_)
  rcases h3 k hl with ⟨c', t', e, _⟩ | ⟨hb, _⟩
  · rw [hk] at e; injection e with e; rw [e] at ho; cases ho
  · omega
theorem Quiet.from_ (h : Quiet B Q W W') {c : Nat} (hc : B ≤ c) : KeepsFrom c W W' := by
  have h0 := h
  obtain ⟨LF, h1, h2, h3⟩ := h
  exact ⟨h1.1, fun k o hk ho hcell => h0.obj ho hcell (Nat.le_trans hc hk)⟩
theorem Quiet.hold {V0 : World} (h : Quiet B Q W W') (hh : Hold V0 Q W) (hQ : ∀ k, Q k → ∃ c t fr, V0.heap[k]? = some (.cells c t fr)) : Hold V0 Q W' := by
  obtain ⟨LF, h1, h2, h3⟩ := h
  exact hh.kept h1 (fun k hq hl => h2 k hl hq) (fun k hq => by obtain ⟨c, t, fr, hc⟩ := hQ k hq; exact (Array.getElem?_eq_some_iff.1 ((hh k hq).trans hc)).1)
end
/-- The queue is in order. -/
def Live (n0 B : Nat) (Q : Nat → Prop) (b : Nat) (cb : Int) (R : List El → Prop) (W : World) : Prop := ∃ vl mb nm E came nx, QAt n0 W (Foot b vl mb E) b vl mb nm E 65536 came nx ∧ (∀ k, Foot b vl mb E k → ¬ Q k) ∧ mb < B ∧ R E ∧ E.length ≤ 65536 ∧ nx ≤ 65536 ∧ 0 ≤ came ∧ came ≤ cb
section
variable {n0 B b : Nat} {Q : Nat → Prop} {cb : Int} {R : List El → Prop} {W W' : World}
theorem Live.keptS {S : Nat → Prop} (h : Live n0 B Q b cb R W) (hk : Kept W W' S) (hS : ∀ k, S k → (k < W.heap.size → (∃ c t, W.heap[k]? = some (.cells c t (0, 0)) ∧ ¬ QT t) ∨ (B ≤ k ∧ ∃ o, W.heap[k]? = some o ∧ o.isCells = false))) : Live n0 B Q b cb R W' := by
  obtain ⟨vl, mb, nm, E, came, nx, h1, h2, h3, h4, h5, h6, h7, h8⟩ := h
  refine ⟨vl, mb, nm, E, came, nx, h1.kept hk (fun k hf hs => ?_), h2, h3, h4, h5, h6, h7, h8⟩
  rcases hS k hs (h1.lt_of k hf) with ⟨c, t, e, ht⟩ | ⟨hb, o, e, ho⟩
  · exact h1.notin e (fun e2 => ht (.inl e2)) (fun e2 => ht (.inr (.inl e2))) (fun e2 => ht (.inr (.inr e2))) hf
  · rcases h1.typed k hf with ⟨c, e2⟩ | ⟨c, e2⟩ | ⟨c, e2⟩ | ⟨e2, _⟩
    · rw [e] at e2; injection e2 with e2; rw [e2] at ho; cases ho
    · rw [e] at e2; injection e2 with e2; rw [e2] at ho; cases ho
    · rw [e] at e2; injection e2 with e2; rw [e2] at ho; cases ho
    · omega
theorem Live.below (h : Live n0 B Q b cb R W) (hB : Below W.heap.size W W') : Live n0 B Q b cb R W' := h.keptS (Kept.of_below hB (fun _ => False)) (fun _ h => h.elim)
theorem Live.put (h : Live n0 B Q b cb R W) {k : Nat} {c : Array Value} {t : TypeId} (hk : W.heap[k]? = some (.cells c t (0, 0))) (ht : ¬ QT t) (j : Nat) (u : Value) : Live n0 B Q b cb R (W.setCell ⟨k, j, none⟩ u) :=
  h.keptS (S := fun i => i = k) ((Kept.refl W (fun i => i = k)).setCell (p := ⟨k, j, none⟩) (.inl rfl) u) (fun i e _ => .inl ⟨c, t, by rw [show i = k from e]; exact hk, ht⟩)
theorem live_own {β : Type} : OwnFrom B (fun (_ : β) W => Live n0 B Q b cb R W) := by
  intro s X Y row hs hg hrow
  refine hs.keptS (S := fun k => row = some k) ⟨hg.size, fun i hi hn => hg.block i hi (fun e => hn e.symm)⟩ (fun k e _ => ?_)
  obtain ⟨hb, o, ho, hc⟩ := hrow k e
  exact .inr ⟨hb, o, ho, hc⟩
theorem live_step {vl : Value} {mb : Nat} {E : List El} {nm : Nat} {came nx : Int} {vl' : Value} {E' : List El} {nm' : Nat} {came' cb' : Int} {R' : List El → Prop} (h1 : QAt n0 W (Foot b vl mb E) b vl mb nm E 65536 came nx) (h2 : ∀ k, Foot b vl mb E k → ¬ Q k) (h3 : mb < B) (hQl : ∀ k, Q k → k < W.heap.size)
    (hQ' : QAt n0 W' (fun k => Foot b vl mb E k ∨ W.heap.size ≤ k) b vl' mb nm' E' 65536 came' nx) (hK : Kept W W' (Foot b vl mb E)) (r : R' E') (l : E'.length ≤ 65536) (hn : nx ≤ 65536) (c0 : 0 ≤ came') (c1 : came' ≤ cb') : Live n0 B Q b cb' R' W' ∧ Quiet B Q W W' := by
  refine ⟨⟨vl', mb, nm', E', came', nx, hQ'.exact_, fun k hk hq => ?_, h3, r, l, hn, c0, c1⟩, Foot b vl mb E, hK, h2, fun k hk => ?_⟩
  · rcases hQ'.foot_in k hk with e | e
    · exact h2 k e hq
    · have := hQl k hq; omega
  · rcases h1.typed k hk with ⟨c, e⟩ | ⟨c, e⟩ | ⟨c, e⟩ | ⟨e2, es, cl, e⟩
    · exact .inl ⟨c, _, e, .inl rfl⟩
    · exact .inl ⟨c, _, e, .inr (.inl rfl)⟩
    · exact .inl ⟨c, _, e, .inr (.inr rfl)⟩
    · exact .inr ⟨by omega, es, cl, e⟩
theorem wide_ {n0 : Nat} {P : Nat → Prop} {W W' : World} {b : Nat} {vl : Value} {mb nm : Nat} {E : List El} {most came nx : Int} (hQ : QAt n0 W' P b vl mb nm E most came nx) (hn : n0 ≤ W.heap.size) : QAt n0 W' (fun k => P k ∨ W.heap.size ≤ k) b vl mb nm E most came nx :=
  hQ.mono (fun k h => .inl h) (fun k h => h.elim (hQ.hP k) (fun h => Nat.le_trans hn h))
theorem live_remove (h : Live n0 B Q b cb (fun _ => True) W) (hQl : ∀ k, Q k → k < W.heap.size) (t : Int) (ht : -9223372036854775808 ≤ t ∧ t ≤ 9223372036854775807) : Calls Try.prog 30 #[.pointer (some ⟨b, 0, none⟩), .int .i64 t] W fun e w' => ∃ (x : Int) (ok : Bool), e = .returned (.tuple #[.int .i64 x, .bool ok]) ∧ Live n0 B Q b cb (fun _ => True) w' ∧ Quiet B Q W w' ∧ Below n0 W w' := by
  have hh := h
  obtain ⟨vl, mb, nm, E, came, nx, h1, h2, h3, h4, h5, h6, h7, h8⟩ := h
  have hn0 : n0 ≤ W.heap.size := by have := h1.hP _ h1.pb; have := h1.lt; omega
  by_cases c : ∃ x ∈ E, x.ticket = t
  · obtain ⟨x, hx, rfl⟩ := c
    obtain ⟨j, hj, rfl⟩ := index_of hx
    refine (remove_yes h1 j hj h5 (by omega)).mono ?_
    rintro e w' ⟨rfl, vl', hQ, hK, hB⟩
    obtain ⟨l1, l2⟩ := live_step (R' := fun _ => True) h1 h2 h3 hQl (wide_ hQ hn0) hK trivial (by rw [erase_len E j hj]; omega) h6 h7 h8
    exact ⟨_, _, rfl, l1, l2, hB⟩
  · refine (remove_no h1 t ht (fun x hx e => c ⟨x, hx, e⟩)).mono ?_
    rintro e w' ⟨rfl, hB⟩
    exact ⟨_, _, rfl, hh.below hB, ⟨fun _ => False, Kept.of_below hB _, fun _ h => h.elim, fun _ h => h.elim⟩, hB.mono hn0⟩
theorem live_change (h : Live n0 B Q b 65536 (fun _ => True) W) (hQl : ∀ k, Q k → k < W.heap.size) (t : Int) (ht : -9223372036854775808 ≤ t ∧ t ≤ 9223372036854775807) (k : Int) : Calls Try.prog 29 #[.pointer (some ⟨b, 0, none⟩), .int .i64 t, .int .i64 k] W fun e w' => ∃ (ok : Bool), e = .returned (.bool ok) ∧ Live n0 B Q b 65537 (fun _ => True) w' ∧ Quiet B Q W w' ∧ Below n0 W w' := by
  obtain ⟨vl, mb, nm, E, came, nx, h1, h2, h3, h4, h5, h6, h7, h8⟩ := h
  have hn0 : n0 ≤ W.heap.size := by have := h1.hP _ h1.pb; have := h1.lt; omega
  by_cases c : ∃ x ∈ E, x.ticket = t
  · obtain ⟨x, hx, rfl⟩ := c
    obtain ⟨j, hj, rfl⟩ := index_of hx
    refine (change_yes h1 j hj h5 (by omega) (by omega) k).mono ?_
    rintro e w' ⟨rfl, vl', hQ, hK, hB⟩
    obtain ⟨l1, l2⟩ := live_step (cb' := 65537) (R' := fun _ => True) h1 h2 h3 hQl hQ hK trivial (by rw [ins_len, erase_len E j hj]; omega) h6 (by omega) (by omega)
    exact ⟨_, rfl, l1, l2, hB⟩
  · refine (change_no h1 t ht (fun x hx e => c ⟨x, hx, e⟩) k).mono ?_
    rintro e w' ⟨rfl, hB⟩
    exact ⟨_, rfl, ⟨vl, mb, nm, E, came, nx, h1.below hB, h2, h3, h4, h5, h6, h7, by omega⟩, ⟨fun _ => False, Kept.of_below hB _, fun _ h => h.elim, fun _ h => h.elim⟩, hB.mono hn0⟩
theorem live_clear (h : Live n0 B Q b cb (fun _ => True) W) (hQl : ∀ k, Q k → k < W.heap.size) : Calls Try.prog 27 #[.pointer (some ⟨b, 0, none⟩)] W fun e w' => e = .returned (.tuple #[]) ∧ Live n0 B Q b cb (fun E => E = []) w' ∧ Quiet B Q W w' ∧ Below n0 W w' := by
  obtain ⟨vl, mb, nm, E, came, nx, h1, h2, h3, h4, h5, h6, h7, h8⟩ := h
  have hn0 : n0 ≤ W.heap.size := by have := h1.hP _ h1.pb; have := h1.lt; omega
  refine (clear_calls h1).mono ?_
  rintro e w' ⟨rfl, hQ, hK, hB⟩
  obtain ⟨l1, l2⟩ := live_step (R' := fun E => E = []) h1 h2 h3 hQl (wide_ hQ hn0) hK rfl (by simp) h6 h7 h8
  exact ⟨rfl, l1, l2, hB⟩
theorem live_len (h : Live n0 B Q b cb (fun E => E = []) W) : Calls Try.prog 31 #[.pointer (some ⟨b, 0, none⟩)] W fun e w' => e = .returned (.int .i64 0) ∧ w' = W := by
  obtain ⟨vl, mb, nm, E, came, nx, h1, h2, h3, rfl, h5, h6, h7, h8⟩ := h
  exact len_calls h1
end
/-- What each loop keeps. -/
def Inv (w V0 : World) (B : Nat) (Q : Nat → Prop) (b : Nat) (cb : Int) (R : List El → Prop) (W : World) : Prop := Hold V0 Q W ∧ Live w.heap.size B Q b cb R W ∧ Below w.heap.size w W
section
variable {w V0 W W' : World} {B : Nat} {Q : Nat → Prop} {b : Nat} {cb cb' : Int} {R R' : List El → Prop}
theorem inv_own {β : Type} (hQ : ∀ k, Q k → ∃ c t fr, V0.heap[k]? = some (.cells c t fr)) {B2 : Nat} (hBB : B ≤ B2) (hB : w.heap.size ≤ B2) : OwnFrom B2 (fun (_ : β) W => Inv w V0 B Q b cb R W) :=
  OwnFrom.and (Own.from (hold_own V0 Q hQ) _) (OwnFrom.and (fun s X Y row hs hg hr => live_own (β := β) s X Y row hs hg (fun r e => ⟨Nat.le_trans hBB (hr r e).1, (hr r e).2⟩)) (ownFrom_below (Nat.le_refl _) hB))
theorem Inv.get (h : Inv w V0 B Q b cb R W) {k : Nat} (hq : Q k) {o : Option Obj} (hb : V0.heap[k]? = o) : W.heap[k]? = o := (h.1 k hq).trans hb
theorem Inv.call (h : Inv w V0 B Q b cb R W) (hL : Live w.heap.size B Q b cb' R' W') (hK : Quiet B Q W W') (hB : Below w.heap.size W W') (hQ : ∀ k, Q k → ∃ c t fr, V0.heap[k]? = some (.cells c t fr)) : Inv w V0 B Q b cb' R' W' := ⟨hK.hold h.1 hQ, hL, h.2.2.trans hB⟩
theorem Inv.below (h : Inv w V0 B Q b cb R W) (hB : Below W.heap.size W W') (hQ : ∀ k, Q k → ∃ c t fr, V0.heap[k]? = some (.cells c t fr)) : Inv w V0 B Q b cb R W' :=
  ⟨h.1.kept (Kept.of_below hB (fun _ => False)) (fun _ _ h => h) (fun k hq => by obtain ⟨c, t, fr, hc⟩ := hQ k hq; exact (Array.getElem?_eq_some_iff.1 ((h.1 k hq).trans hc)).1), h.2.1.below hB, h.2.2.trans (hB.mono h.2.2.size)⟩
theorem Inv.put (h : Inv w V0 B Q b cb R W) {k : Nat} {c : Array Value} {t : TypeId} (hk : W.heap[k]? = some (.cells c t (0, 0))) (ht : ¬ QT t) (hq : ¬ Q k) (hb : w.heap.size ≤ k) (u : Value) : Inv w V0 B Q b cb R (W.setCell ⟨k, 0, none⟩ u) :=
  ⟨fun i hi => (Below.heap_setCell W ⟨k, 0, none⟩ u i (fun e => hq (by have e : i = k := e; rw [← e]; exact hi))).trans (h.1 i hi), h.2.1.put hk ht 0 u, h.2.2.setCell (p := ⟨k, 0, none⟩) hb u⟩
theorem Inv.box (h : Inv w V0 B Q b cb R W) {k : Nat} (hq : Q k) {t : TypeId} {v : Value} (hb : Boxed V0 k t v) : Boxed W k t v := (h.1 k hq).trans hb
theorem Inv.widen (h : Inv w V0 B Q b 65536 R W) : Inv w V0 B Q b 65537 R W := by
  obtain ⟨h0, ⟨vl, mb, nm, E, came, nx, h1, h2, h3, h4, h5, h6, h7, h8⟩, h9⟩ := h
  exact ⟨h0, ⟨vl, mb, nm, E, came, nx, h1, h2, h3, h4, h5, h6, h7, by omega⟩, h9⟩
theorem Inv.ql (h : Inv w V0 B Q b cb R W) (hQ : ∀ k, Q k → ∃ c t fr, V0.heap[k]? = some (.cells c t fr)) (k : Nat) (hq : Q k) : k < W.heap.size := by obtain ⟨c, t, fr, hc⟩ := hQ k hq; exact (Array.getElem?_eq_some_iff.1 ((h.1 k hq).trans hc)).1
theorem Inv.kq (h : Inv w V0 B Q b cb R W) (h' : Inv w V0 B Q b cb' R' W') (hB : Below w.heap.size W W') {b1 b2 : Nat} (q1 : Q b1) (q2 : Q b2) : Kq2 w.heap.size b1 b2 W W' :=
  ⟨hB, fun k c t hk hc => by
    have hq : Q k := by rcases hk with rfl | rfl <;> assumption
    exact (h'.1 k hq).trans ((h.1 k hq).symm.trans hc)⟩
end
end Go.Proofs.Ytgolghimefageaa.QW
