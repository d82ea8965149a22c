/- A queue: place, Put. -/
import Derived.Test.YtgolghimefageaaQWC
import Derived.Test.YtgolghimefageaaQWD
namespace Go.Proofs.Ytgolghimefageaa.QW
open Go.Proofs Go.RowKit Go.Shelf Go.Lib Go.Maps Go.Proofs.YtgolghimefageaaW.PrintWords Go.Proofs.YtgolghimefageaaW.PrintLast Go.Proofs.YtgolghimefageaaW.PrintMore Go.Proofs.Ytgolghimefageaa.St
instance (x y : El) : Decidable (Ahead x y) := by unfold Ahead; infer_instance
/-- y among E, behind all that are ahead of it. -/
def ins : List El → El → List El
  | [], y => [y]
  | x :: r, y => if Ahead x y then x :: ins r y else y :: x :: r
theorem ins_eq (y : El) : ∀ (E : List El) (k : Nat), k ≤ E.length → (∀ j, j < k → Ahead E[j]! y) → (∀ j, k ≤ j → j < E.length → ¬ Ahead E[j]! y) → E.take k ++ y :: E.drop k = ins E y
  | [], k, hk, _, _ => by
    obtain rfl : k = 0 := by simpa using hk
    rfl
  | x :: r, 0, _, _, h2 => by
    have := h2 0 (Nat.le_refl _) (by simp)
    unfold ins
    rw [if_neg (by simpa using this)]
    rfl
  | x :: r, k + 1, hk, h1, h2 => by
    have h0 := h1 0 (by omega)
    unfold ins
    rw [if_pos (by simpa using h0), ← ins_eq y r k (by simpa using hk) (fun j hj => by simpa using h1 (j + 1) (by omega)) (fun j h3 h4 => by simpa using h2 (j + 1) (by omega) (by simpa using h4))]
    rfl
theorem ins_perm (y : El) : ∀ E : List El, (ins E y).Perm (y :: E)
  | [] => List.Perm.refl _
  | x :: r => by
    unfold ins
    split
    · exact ((ins_perm y r).cons x).trans (List.Perm.swap y x r)
    · exact List.Perm.refl _
theorem ins_len (E : List El) (y : El) : (ins E y).length = E.length + 1 := by rw [(ins_perm y E).length_eq, List.length_cons]
theorem ahead_total {x y : El} (h : ¬ Ahead x y) (hc : x.came ≠ y.came) : Ahead y x := by
  unfold Ahead at *
  rcases klt_total x.k y.k with h1 | h1 | h1
  · exact absurd (.inl h1) h
  · refine .inr ⟨h1.symm, ?_⟩
    have : ¬ x.came < y.came := fun h2 => h (.inr ⟨h1, h2⟩)
    omega
  · exact .inl h1
theorem ins_sorted (y : El) : ∀ E : List El, E.Pairwise Ahead → (∀ x ∈ E, x.came ≠ y.came) → (ins E y).Pairwise Ahead
  | [], _, _ => List.pairwise_singleton _ _
  | x :: r, h, hc => by
    rw [List.pairwise_cons] at h
    unfold ins
    split
    · rename_i ha
      rw [List.pairwise_cons]
      refine ⟨fun z hz => ?_, ins_sorted y r h.2 (fun z hz => hc z (List.mem_cons_of_mem _ hz))⟩
      rcases List.mem_cons.1 ((ins_perm y r).mem_iff.1 hz) with rfl | hz
      · exact ha
      · exact h.1 z hz
    · rename_i ha
      have hyx := ahead_total ha (hc x List.mem_cons_self)
      rw [List.pairwise_cons, List.pairwise_cons]
      refine ⟨fun z hz => ?_, h.1, h.2⟩
      rcases List.mem_cons.1 hz with rfl | hz
      · exact hyx
      · exact ahead_trans hyx (h.1 z hz)
/-- An element that has come. -/
def El.at (y : El) (c : Int) : El := { y with came := c }
theorem good_ins {E : List El} {y : El} {came next : Int} (h : Good E came next) (h1 : y.p ∉ E.map El.p) (h2 : y.ticket ∉ E.map El.ticket) (h3 : 0 ≤ y.ticket ∧ y.ticket < next) (h4 : 0 ≤ came) : Good (ins E (y.at came)) (came + 1) next := by
  have hp := ins_perm (y.at came) E
  refine ⟨(hp.map El.p).nodup_iff.2 (List.nodup_cons.2 ⟨h1, h.nodup⟩), (hp.map El.ticket).nodup_iff.2 (List.nodup_cons.2 ⟨h2, h.tick⟩), fun x hx => ?_, ins_sorted _ E h.sorted (fun x hx => ?_)⟩
  · rcases List.mem_cons.1 (hp.mem_iff.1 hx) with rfl | hx
    · exact ⟨h3.1, h3.2, h4, by show came < came + 1; omega⟩
    · have := h.range x hx
      exact ⟨this.1, this.2.1, this.2.2.1, by omega⟩
  · have := (h.range x hx).2.2.2
    show x.came ≠ came
    omega
theorem any_perm {E E' : List El} (h : E.Perm E') (f : El → Bool) : E.any f = E'.any f := by
  rw [Bool.eq_iff_iff, List.any_eq_true, List.any_eq_true]
  exact ⟨fun ⟨x, hx, hf⟩ => ⟨x, h.mem_iff.1 hx, hf⟩, fun ⟨x, hx, hf⟩ => ⟨x, h.mem_iff.2 hx, hf⟩⟩
theorem MapOf.perm {D : DataW Unit} {E E' : List El} (h : MapOf D E) (hp : E.Perm E') : MapOf D E' := ⟨fun t => by rw [h.has, any_perm hp], fun x hx z => h.at_ x (hp.mem_iff.2 hx) z⟩
theorem MapOf.came {D : DataW Unit} {E : List El} {y : El} (h : MapOf D (y :: E)) (c : Int) : MapOf D (y.at c :: E) := ⟨fun t => by rw [h.has]; rfl, fun x hx z => by
  rcases List.mem_cons.1 hx with rfl | hx
  · exact h.at_ y List.mem_cons_self z
  · exact h.at_ x (List.mem_cons_of_mem _ hx) z⟩
theorem MapOf.key {D : DataW Unit} {E : List El} {y : El} (h : MapOf D (y :: E)) (k : Int) : MapOf D ({ y with k := k } :: E) := ⟨fun t => by rw [h.has]; rfl, fun x hx z => by
  rcases List.mem_cons.1 hx with rfl | hx
  · exact h.at_ y List.mem_cons_self z
  · exact h.at_ x (List.mem_cons_of_mem _ hx) z⟩
/-- A queue that has an element y beside its order: the map of tickets tells of it. -/
structure QMid (n0 : Nat) (w : World) (P : Nat → Prop) (b : Nat) (vl : Value) (mb nm : Nat) (E : List El) (y : El) (most came next : Int) : Prop where
  hP : ∀ k, P k → n0 ≤ k
  pb : P b
  pm : P mb
  pl : ∀ k, vl.ownBlock = some k → P k
  pe : ∀ x ∈ E, P x.p
  py : P y.p
  blk : w.heap[b]? = some (.cells #[.int .i64 most, .int .i64 came, .int .i64 next, vl, .map (some mb)] 99 (0, 0))
  row : w.ownsRow n0 100 1 vl E.length (ptrs E)
  els : ∀ x ∈ E, ElAt w x
  ely : ElAt w y
  map : ∃ D : DataW Unit, w.ownsMap Try.prog 3 ptrR mb nm D ∧ MapOf D (y :: E)
  good : Good E came next
  fp : y.p ∉ E.map El.p
  ft : y.ticket ∉ E.map El.ticket
  rng : 0 ≤ y.ticket ∧ y.ticket < next
theorem cells_other {w : World} {k : Nat} {o : Obj} (h : w.heap[k]? = some o) (b j : Nat) (u : Value) (hne : k ≠ b) : (w.setCell ⟨b, j, none⟩ u).heap[k]? = some o := by
  rw [Below.heap_setCell w ⟨b, j, none⟩ _ k hne]
  exact h
theorem cells_set {w : World} {b : Nat} {cs : Array Value} {t : TypeId} (h : w.heap[b]? = some (.cells cs t (0, 0))) (j : Nat) (u : Value) : (w.setCell ⟨b, j, none⟩ u).heap[b]? = some (.cells (cs.setIfInBounds j u) t (0, 0)) := by
  unfold World.setCell
  simp only [Array.getElem?_modify, if_true, h, Option.map_some]
  rfl
section
variable {n0 : Nat} {w : World} {P : Nat → Prop} {b : Nat} {vl : Value} {mb nm : Nat} {E : List El} {y : El} {most came next : Int}
theorem QMid.lt (h : QMid n0 w P b vl mb nm E y most came next) : b < w.heap.size := (Array.getElem?_eq_some_iff.1 h.blk).1
theorem QMid.apart (h : QMid n0 w P b vl mb nm E y most came next) : b ≠ mb ∧ vl.ownBlock ≠ some b ∧ vl.ownBlock ≠ some mb ∧ y.p ≠ b ∧ y.p ≠ mb ∧ vl.ownBlock ≠ some y.p ∧ (∀ x ∈ E, x.p ≠ b ∧ x.p ≠ mb ∧ vl.ownBlock ≠ some x.p ∧ x.p ≠ y.p) := by
  obtain ⟨D, ⟨es, clock, hm, _⟩, _⟩ := h.map
  have hel : ∀ x, ElAt w x → x.p ≠ b ∧ x.p ≠ mb ∧ vl.ownBlock ≠ some x.p := by
    intro x hx
    refine ⟨fun e => ?_, fun e => ?_, fun e => ?_⟩
    · have hb := h.blk
      rw [← e, hx] at hb
      injection hb with hb
      injection hb with _ hb _
      revert hb; decide
    · unfold ElAt at hx
      rw [e, hm] at hx
      cases hx
    · obtain ⟨c, hc⟩ := own_typed h.row _ e
      unfold ElAt at hx
      rw [hx] at hc
      injection hc with hc
      injection hc with _ hc _
      revert hc; decide
  refine ⟨fun e => ?_, fun e => ?_, fun e => ?_, (hel y h.ely).1, (hel y h.ely).2.1, (hel y h.ely).2.2, fun x hx => ⟨(hel x (h.els x hx)).1, (hel x (h.els x hx)).2.1, (hel x (h.els x hx)).2.2, fun e => h.fp (List.mem_map.2 ⟨x, hx, e⟩)⟩⟩
  · have hb := h.blk
    rw [e, hm] at hb
    cases hb
  · obtain ⟨c, hc⟩ := own_typed h.row _ e
    rw [h.blk] at hc
    injection hc with hc
    injection hc with _ hc _
    revert hc; decide
  · obtain ⟨c, hc⟩ := own_typed h.row _ e
    rw [hm] at hc
    cases hc
theorem QMid.kept {w' : World} {S : Nat → Prop} (h : QMid n0 w P b vl mb nm E y most came next) (hk : Kept w w' S) (hS : ∀ k, P k → ¬ S k) : QMid n0 w' P b vl mb nm E y most came next := by
  obtain ⟨D, hm, hD⟩ := h.map
  exact ⟨h.hP, h.pb, h.pm, h.pl, h.pe, h.py, blk_kept h.blk hk (hS _ h.pb), own_move h.row (fun k e => hk.2 k (h.row.lt k e).2 (hS k (h.pl k e))),
    fun x hx => blk_kept (h.els x hx) hk (hS _ (h.pe x hx)), blk_kept h.ely hk (hS _ h.py), ⟨D, own_same hm (hk.2 mb hm.lt (hS _ h.pm)), hD⟩, h.good, h.fp, h.ft, h.rng⟩
theorem QMid.below {w' : World} (h : QMid n0 w P b vl mb nm E y most came next) (hB : Below w.heap.size w w') : QMid n0 w' P b vl mb nm E y most came next := h.kept (Kept.of_below hB (fun _ => False)) (fun _ _ h => h)
/-- The element's came is written, and the queue's. -/
theorem QMid.comes (h : QMid n0 w P b vl mb nm E y most came next) (c : Int) (hc : came ≤ c) : QMid n0 ((w.setCell ⟨y.p, 2, none⟩ (.int .i64 came)).setCell ⟨b, 1, none⟩ (.int .i64 c)) P b vl mb nm E (y.at came) most c next := by
  obtain ⟨a1, a2, a3, a4, a5, a6, a7⟩ := h.apart
  obtain ⟨D, hm, hD⟩ := h.map
  have hel := cells_set h.ely 2 (.int .i64 came)
  have hbl := cells_set (cells_other h.blk y.p 2 (.int .i64 came) (Ne.symm a4)) 1 (.int .i64 c)
  refine ⟨h.hP, h.pb, h.pm, h.pl, h.pe, h.py, hbl, set_other (set_other h.row y.p 2 _ a6) b 1 _ a2, fun x hx => cells_other (cells_other (h.els x hx) y.p 2 _ (a7 x hx).2.2.2) b 1 _ (a7 x hx).1, cells_other hel b 1 _ a4,
    ⟨D, (hm.setCell (a := ⟨y.p, 2, none⟩) (Ne.symm a5) _).setCell (a := ⟨b, 1, none⟩) (Ne.symm a1) _, hD.came came⟩, ⟨h.good.nodup, h.good.tick, fun x hx => ?_, h.good.sorted⟩, h.fp, h.ft, h.rng⟩
  have := h.good.range x hx
  exact ⟨this.1, this.2.1, this.2.2.1, by omega⟩
/-- It is in its place. -/
theorem QMid.placed {w1 : World} {vl' : Value} (h : QMid n0 w P b vl mb nm E (y.at came) most (came + 1) next) (hg0 : Good E came next) (h0 : 0 ≤ came) (hg : w.grownBy w1 vl.ownBlock) (hown : w1.ownsRow n0 100 1 vl' (E.length + 1) (ptrs (ins E (y.at came)))) (hat : vl'.ownBlock = vl.ownBlock ∨ ∀ k, vl'.ownBlock = some k → w.heap.size ≤ k) (hn : n0 ≤ w.heap.size) :
    QAt n0 (w1.setCell ⟨b, 3, none⟩ vl') (fun k => P k ∨ w.heap.size ≤ k) b vl' mb nm (ins E (y.at came)) most (came + 1) next := by
  obtain ⟨a1, a2, a3, a4, a5, a6, a7⟩ := h.apart
  obtain ⟨D, hm, hD⟩ := h.map
  have hk : ∀ {k : Nat} {o : Obj}, w.heap[k]? = some o → vl.ownBlock ≠ some k → w1.heap[k]? = some o := fun {k o} hh hne => (hg.block k (Array.getElem?_eq_some_iff.1 hh).1 (Ne.symm hne)).trans hh
  have hb1 := hk h.blk a2
  have d2 : vl'.ownBlock ≠ some b := by
    rcases hat with e | e
    · rw [e]; exact a2
    · intro e2; have := e b e2; have := h.lt; omega
  have hp := ins_perm (y.at came) E
  have helt : ∀ x, ElAt w x → vl.ownBlock ≠ some x.p → x.p ≠ b → ElAt (w1.setCell ⟨b, 3, none⟩ vl') x := fun x hx h1 h2 => cells_other (hk hx h1) b 3 _ h2
  refine ⟨fun k hk => hk.elim (h.hP k) (fun h => by omega), .inl h.pb, .inl h.pm, fun k e => ?_, fun x hx => ?_, cells_set hb1 3 vl', ?_, fun x hx => ?_, ⟨D, (hm.kept hg (Ne.symm a3)).setCell (a := ⟨b, 3, none⟩) (Ne.symm a1) _, hD.perm hp.symm⟩, good_ins hg0 h.fp h.ft h.rng h0⟩
  · rcases hat with e2 | e2
    · rw [e2] at e; exact .inl (h.pl k e)
    · exact .inr (e2 k e)
  · rcases List.mem_cons.1 (hp.mem_iff.1 hx) with rfl | hx
    · exact .inl h.py
    · exact .inl (h.pe x hx)
  · rw [ins_len]
    exact set_other hown b 3 _ d2
  · rcases List.mem_cons.1 (hp.mem_iff.1 hx) with rfl | hx
    · exact helt _ h.ely a6 a4
    · exact helt x (h.els x hx) (a7 x hx).2.2.1 (a7 x hx).1
end
end Go.Proofs.Ytgolghimefageaa.QW
