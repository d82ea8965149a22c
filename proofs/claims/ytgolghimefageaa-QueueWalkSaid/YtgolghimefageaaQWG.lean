/- A queue: Put. -/
import Derived.Test.YtgolghimefageaaQWF
namespace Go.Proofs.Ytgolghimefageaa.QW
open Go.Proofs Go.RowKit Go.Shelf Go.Lib Go.Maps Go.Proofs.YtgolghimefageaaW.PrintWords Go.Proofs.YtgolghimefageaaW.PrintLast Go.Proofs.YtgolghimefageaaW.PrintMore Go.Proofs.Ytgolghimefageaa.St
theorem lit_ne {a b : Int} (h : a ≠ b) : (Lit.int .i64 a) ≠ (Lit.int .i64 b) := fun e => h (by injection e)
theorem isKey (a : Int) : WideAt.IsKeyLit (Lit.int .i64 a) := by first | exact trivial | (unfold WideAt.IsKeyLit; simp)
theorem MapOf.put {D : DataW Unit} {E : List El} {y : El} (h : MapOf D E) (hD : IsMap D) (hf : y.ticket ∉ E.map El.ticket) : MapOf (D.put (.int .i64 y.ticket) (.lit (.int .i64 (y.p : Int)))) (y :: E) := by
  refine ⟨fun t => ?_, fun x hx z => ?_⟩
  · by_cases c : y.ticket = t
    · subst c
      rw [has_put_same hD (isKey _), List.any_cons, decide_eq_true rfl, Bool.true_or]
    · rw [has_put_other (lit_ne (Ne.symm c)), h.has, List.any_cons, decide_eq_false c, Bool.false_or]
  · rcases List.mem_cons.1 hx with rfl | hx
    · exact atKey_put_same hD (isKey _) _ _
    · have hne : x.ticket ≠ y.ticket := fun e => hf (e ▸ List.mem_map.2 ⟨x, hx, rfl⟩)
      rw [atKey_put_other (lit_ne hne), h.at_ x hx]
theorem MapOf.gone {D : DataW Unit} {E : List El} {y : El} (h : MapOf D (y :: E)) (hf : y.ticket ∉ E.map El.ticket) : MapOf (D.del (.int .i64 y.ticket)) E := by
  refine ⟨fun t => ?_, fun x hx z => ?_⟩
  · by_cases c : y.ticket = t
    · subst c
      rw [has_del_same]
      symm
      rw [List.any_eq_false]
      intro x hx
      have hne : x.ticket ≠ y.ticket := fun e => hf (e ▸ List.mem_map.2 ⟨x, hx, rfl⟩)
      simpa using hne
    · rw [has_del_other (lit_ne (Ne.symm c)), h.has, List.any_cons, decide_eq_false c, Bool.false_or]
  · have hne : x.ticket ≠ y.ticket := fun e => hf (e ▸ List.mem_map.2 ⟨x, hx, rfl⟩)
    rw [atKey_del_other (lit_ne hne), h.at_ x (List.mem_cons_of_mem _ hx)]
section
variable {n0 : Nat} {w : World} {P : Nat → Prop} {b : Nat} {vl : Value} {mb nm : Nat} {E : List El} {most came next : Int}
theorem QAt.apart (h : QAt n0 w P b vl mb nm E most came next) : b ≠ mb ∧ vl.ownBlock ≠ some b ∧ vl.ownBlock ≠ some mb ∧ (∀ x, ElAt w x → x.p ≠ b ∧ x.p ≠ mb ∧ vl.ownBlock ≠ some x.p) := by
  obtain ⟨D, ⟨es, clock, hm, _⟩, _⟩ := h.map
  have hel : ∀ x, ElAt w x → x.p ≠ b ∧ x.p ≠ mb ∧ vl.ownBlock ≠ some x.p := by
    intro x hx
    refine ⟨fun e => ?_, fun e => ?_, fun e => ?_⟩
    · have hb := h.blk
      rw [← e, hx] at hb
      injection hb with hb
      injection hb with _ hb _
      revert hb; decide
    · unfold ElAt at hx
      rw [e, hm] at hx
      cases hx
    · obtain ⟨c, hc⟩ := own_typed h.row _ e
      unfold ElAt at hx
      rw [hx] at hc
      injection hc with hc
      injection hc with _ hc _
      revert hc; decide
  refine ⟨fun e => ?_, fun e => ?_, fun e => ?_, hel⟩
  · have hb := h.blk
    rw [e, hm] at hb
    cases hb
  · obtain ⟨c, hc⟩ := own_typed h.row _ e
    rw [h.blk] at hc
    injection hc with hc
    injection hc with _ hc _
    revert hc; decide
  · obtain ⟨c, hc⟩ := own_typed h.row _ e
    rw [hm] at hc
    cases hc
theorem keyed_i : Keyed Try.prog 3 := int_keyed Try.underlying3
/-- A new element, and the map tells of it. -/
theorem QAt.joins (h : QAt n0 w P b vl mb nm E most came next) (k : Int) (v : Int) (hnm : nm < maxLen) (hnx : 0 ≤ next ∧ next < 4611686018427387904) :
    ∃ w5, (Instr.mapUpdate 96 (.map (some mb)) (.int .i64 next) (.pointer (some ⟨w.heap.size, 0, none⟩))).run Try.prog ((w.alloc (.cells #[(.int .i64 k), (.int .i64 v), .int .i64 0, .int .i64 next] 102)).setCell ⟨b, 2, none⟩ (.int .i64 (next + 1))).drew.drew = .ok () w5 ∧
      QMid n0 w5 (fun k => P k ∨ w.heap.size ≤ k) b vl mb (nm + 1) E ⟨w.heap.size, k, v, 0, next⟩ most came (next + 1) ∧ Kept w w5 P ∧ Below n0 w w5 := by
  obtain ⟨a1, a2, a3, a4⟩ := h.apart
  obtain ⟨D, hm, hD⟩ := h.map
  have hlt := h.lt
  have hmb := hm.lt
  have hn0 : n0 ≤ w.heap.size := by have := h.hP _ h.pb; omega
  obtain ⟨W2, hW2⟩ : ∃ W2, W2 = ((w.alloc (.cells #[(.int .i64 k), (.int .i64 v), .int .i64 0, .int .i64 next] 102)).setCell ⟨b, 2, none⟩ (.int .i64 (next + 1))).drew.drew := ⟨_, rfl⟩
  have hk2 : Kept w W2 (fun k => k = b) := by
    rw [hW2]
    exact ((((Kept.refl w (fun k => k = b)).alloc _).setCell (p := ⟨b, 2, none⟩) (.inl rfl) _).drew).drew
  have hB2 : Below n0 w W2 := by
    rw [hW2]
    have h1 : Below n0 w (w.alloc (.cells #[(.int .i64 k), (.int .i64 v), .int .i64 0, .int .i64 next] 102)) := (Below.refl n0 w).alloc hn0 _
    exact ((h1.setCell (p := ⟨b, 2, none⟩) (h.hP _ h.pb) _).drew).drew
  have hm2 : W2.ownsMap Try.prog 3 ptrR mb nm D := own_same hm (hk2.2 mb hmb (Ne.symm a1))
  have hbl : W2.heap[b]? = some (.cells #[.int .i64 most, .int .i64 came, .int .i64 (next + 1), vl, .map (some mb)] 99 (0, 0)) := by
    rw [hW2]
    exact cells_set (w := w.alloc _) ((heap_alloc_old w _ hlt).trans h.blk) 2 _
  have hel : W2.heap[w.heap.size]? = some (.cells #[(.int .i64 k), (.int .i64 v), .int .i64 0, .int .i64 next] 102 (0, 0)) := by
    rw [hW2]
    exact cells_other (w := w.alloc _) (heap_alloc_new w _) b 2 _ (by show w.heap.size ≠ b; omega)
  obtain ⟨w5, hrun, hown5, hg5⟩ := hm2.update keyed_i Try.underlying96 hnm (key_of (n := next) (by omega)) (ptrR_some w.heap.size)
  rw [← hW2]
  have hft : next ∉ E.map El.ticket := fun e => by
    obtain ⟨x, hx, e⟩ := List.mem_map.1 e
    have := (h.good.range x hx).2.1
    omega
  have hk5 : ∀ k, k < W2.heap.size → k ≠ mb → w5.heap[k]? = W2.heap[k]? := fun k hk hne => hg5.block k hk (fun e => hne (by injection e))
  have hold : ∀ {k : Nat} {o : Obj}, w.heap[k]? = some o → k ≠ b → k ≠ mb → w5.heap[k]? = some o := fun {k o} hh h1 h2 => by
    have hl := (Array.getElem?_eq_some_iff.1 hh).1
    rw [hk5 k (Nat.lt_of_lt_of_le hl hk2.1) h2, hk2.2 k hl h1]
    exact hh
  have hsz := hk2.1
  refine ⟨w5, hrun, ⟨fun k hk => hk.elim (h.hP k) (fun h => by omega), .inl h.pb, .inl h.pm, fun k e => .inl (h.pl k e), fun x hx => .inl (h.pe x hx), .inr (Nat.le_refl _), ?_, ?_, fun x hx => ?_, ?_, ⟨_, hown5, ?_⟩, ⟨h.good.nodup, h.good.tick, fun x hx => ?_, h.good.sorted⟩, ?_, hft, ?_⟩, ?_, ?_⟩
  · rw [hk5 b (by omega) a1]; exact hbl
  · exact own_move h.row (fun k e => by
      have hl := (h.row.lt k e).2
      rw [hk5 k (by omega) (fun e2 => a3 (e2 ▸ e)), hk2.2 k hl (fun e2 => a2 (e2 ▸ e))])
  · have := a4 x (h.els x hx)
    exact hold (h.els x hx) this.1 this.2.1
  · exact (hk5 w.heap.size (Array.getElem?_eq_some_iff.1 hel).1 (by show w.heap.size ≠ mb; omega)).trans hel
  · exact hD.put (y := ⟨w.heap.size, k, v, 0, next⟩) (hm2.isMap) hft
  · have := h.good.range x hx
    exact ⟨this.1, by omega, this.2.2.1, this.2.2.2⟩
  · intro e
    obtain ⟨x, hx, e⟩ := List.mem_map.1 e
    have h1 : x.p < w.heap.size := (Array.getElem?_eq_some_iff.1 (h.els x hx)).1
    have h2 : x.p = w.heap.size := e
    omega
  · show 0 ≤ next ∧ next < next + 1
    omega
  · exact Kept.of_grown hg5 (hk2.mono (fun k e => by rw [e]; exact h.pb)) (fun k e => by cases e; exact .inl h.pm)
  · exact hB2.grown hg5 (by omega) (fun k e => by cases e; exact h.hP _ h.pm)
end
theorem mono_ge {P : Nat → Prop} {a c : Nat} (h : a ≤ c) : ∀ k, ((P k ∨ a ≤ k) ∨ c ≤ k) → (P k ∨ a ≤ k) := by
  rintro k ((hk | hk) | hk)
  · exact .inl hk
  · exact .inr hk
  · exact .inr (Nat.le_trans h hk)
set_option maxRecDepth 100000 in
set_option maxHeartbeats 4000000 in
theorem put_calls {n0 : Nat} {w : World} {P : Nat → Prop} {b : Nat} {vl : Value} {mb nm : Nat} {E : List El} {most came next : Int} (h : QAt n0 w P b vl mb nm E most came next) (k : Int) (v : Int) (hroom : (E.length : Int) < most) (hE : E.length ≤ 65536) (hnm : nm < 4611686018427387904) (hnx : 0 ≤ next ∧ next < 4611686018427387904) (hc : 0 ≤ came ∧ came < 4611686018427387904) :
    Calls Try.prog 23 #[.pointer (some ⟨b, 0, none⟩), (.int .i64 k), (.int .i64 v)] w fun e w' => e = .returned (.tuple #[.int .i64 next, .int .i64 0]) ∧ ∃ vl' p, QAt n0 w' (fun k => P k ∨ w.heap.size ≤ k) b vl' mb (nm + 1) (ins E ⟨p, k, v, came, next⟩) most (came + 1) (next + 1) ∧ Kept w w' P ∧ Below n0 w w' := by
  obtain ⟨w5, hrun, hQ, hK, hB⟩ := h.joins k v (by unfold maxLen; omega) hnx
  have hplace := place_calls hQ hE hc
  have hlt := h.lt
  obtain ⟨va, vc, hvl⟩ := own_form h.row
  subst hvl
  have eq := eqp ⟨b, 0, none⟩
  have mixed : Try.prog.follows .mixedOrders = true := by kernel_rfl
  have c0 : w.drew.cell? ⟨b, 0, none⟩ = some (.int .i64 most) := h.c0
  have c2 : w.drew.cell? ⟨b, 2, none⟩ = some (.int .i64 next) := h.c2
  have c3 : w.drew.cell? ⟨b, 3, none⟩ = some (.slice va E.length vc) := h.c3
  have c2a : (w.alloc (.cells #[(.int .i64 k), (.int .i64 v), .int .i64 0, .int .i64 next] 102)).drew.cell? ⟨b, 2, none⟩ = some (.int .i64 next) := Lib.cell?_alloc_some (W := w) _ h.c2
  have f2a : (w.alloc (.cells #[(.int .i64 k), (.int .i64 v), .int .i64 0, .int .i64 next] 102)).drew.frozen? ⟨b, 2, none⟩ = false := frozen_at (w := w.alloc _) ((heap_alloc_old w _ hlt).trans h.blk) 2
  have c4 : ((w.alloc (.cells #[(.int .i64 k), (.int .i64 v), .int .i64 0, .int .i64 next] 102)).setCell ⟨b, 2, none⟩ (.int .i64 (next + 1))).drew.drew.cell? ⟨b, 4, none⟩ = some (.map (some mb)) := cells_at (cells_set (w := w.alloc _) ((heap_alloc_old w _ hlt).trans h.blk) 2 (.int .i64 (next + 1))) 4 _ rfl
  have e3 : ((w.alloc (.cells #[(.int .i64 k), (.int .i64 v), .int .i64 0, .int .i64 next] 102)).setCell ⟨b, 2, none⟩ (.int .i64 (next + 1))).drew.drew.cell? ⟨w.heap.size, 3, none⟩ = some (.int .i64 next) := cells_at (cells_other (w := w.alloc _) (heap_alloc_new w _) b 2 (.int .i64 (next + 1)) (by show w.heap.size ≠ b; omega)) 3 _ rfl
  have hz : wrap64 (next + 1) = next + 1 := by unfold wrap64; omega
  have hr : decide ((most : Int) ≤ (E.length : Int)) = false := decide_eq_false (by omega)
  have H := Aside0.mk (And.intro hK (And.intro hB (And.intro h.hP (And.intro h.pb (And.intro hlt hQ.ely)))))
  have HS := Go.Lib.hid hK.1
  have hnn : (⟨w.heap.size, k, v, 0, next⟩ : El).at came = ⟨w.heap.size, k, v, came, next⟩ := rfl
  rw [hnn] at hplace
  clear h hQ hK hB hroom hE hnm hnx hc hlt hnn
  go_enter Try.func23, Try.ntmps23
  go_wp2_with fail
  go_region
  go_wp2_with fail
  go_region
  go_wp2_with (go_at_call 39; refine hplace.mono ?_; rintro e w6 ⟨rfl, vl', hQ, hK6, hB6⟩; have HQ := Aside0.mk (And.intro hQ (And.intro hK6 hB6)); have hel6 : ElAt w6 ⟨w.heap.size, k, v, came, next⟩ := hQ.els _ ((ins_perm _ E).mem_iff.2 List.mem_cons_self); have t6 := hel6.cells.2.2.2; clear hQ hK6 hB6 hel6)
  go_ret2
  refine ⟨rfl, vl', w.heap.size, HQ.out.1.mono (mono_ge HS.out) ?_, ?_, H.out.2.1.trans HQ.out.2.2⟩
  · rintro k (hk | hk)
    · exact H.out.2.2.1 k hk
    · have := H.out.2.2.1 _ H.out.2.2.2.1
      have := H.out.2.2.2.2.1
      omega
  · exact H.out.1.then_ HQ.out.2.1 (fun k hk => hk)
end Go.Proofs.Ytgolghimefageaa.QW
