/- QueueSorts: what each call does. -/
import Derived.Test.YtgolghimefageaaQSM
import Derived.Test.YtgolghimefageaaQSJL
import Derived.Test.YtgolghimefageaaQAwakeM
namespace Go.Proofs.Ytgolghimefageaa.QS
set_option linter.unusedVariables false
open Go.Proofs Go.RowKit Go.Shelf Go.Lib Go.Maps Go.Proofs.YtgolghimefageaaW.PrintWords Go.Proofs.YtgolghimefageaaW.PrintLast Go.Proofs.YtgolghimefageaaW.PrintMore Go.Proofs.Ytgolghimefageaa.St
/-- An element of the law's: its value, its ticket and its coming are one number, its key is the list's there. -/
structure Nice (keys : List ByteArray) (x : El) : Prop where
  v : x.v = x.ticket
  came : x.came = x.ticket
  lo : 0 ≤ x.ticket
  hi : x.ticket < (keys.length : Int)
  key : x.k = keys.getD x.ticket.toNat ByteArray.empty
def SSt (w0 W : World) (b : Nat) (keys : List ByteArray) (nx : Nat) (E : List El) (B : Nat) (o : Option Obj) : Prop :=
  ∃ P vl mb nm, QAt w0.heap.size W P b vl mb nm E 65536 (nx : Int) (nx : Int) ∧ (∀ k, P k → k < W.heap.size) ∧ Fx B o P W ∧ nm ≤ nx ∧ nx ≤ keys.length ∧ E.length ≤ nx ∧ keys.length ≤ 65536 ∧ (∀ x ∈ E, Nice keys x) ∧ Below w0.heap.size w0 W
section
variable {w0 W : World} {b : Nat} {keys : List ByteArray} {nx B : Nat} {E : List El} {o : Option Obj}
theorem SSt.next_ {W' : World} {P : Nat → Prop} {vl : Value} {mb nm nx' : Nat} {E' : List El} (hf : Fx B o P W) (h9 : Below w0.heap.size w0 W) (hQ : QAt w0.heap.size W' (fun k => P k ∨ W.heap.size ≤ k) b vl mb nm E' 65536 (nx' : Int) (nx' : Int)) (hK : Kept W W' P) (hB : Below w0.heap.size W W')
    (h1 : nm ≤ nx') (h2 : nx' ≤ keys.length) (h3 : E'.length ≤ nx') (h4 : keys.length ≤ 65536) (h5 : ∀ x ∈ E', Nice keys x) : SSt w0 W' b keys nx' E' B o :=
  ⟨_, vl, mb, nm, hQ.tight, fun k hk => hk.2, hf.step hK, h1, h2, h3, h4, h5, h9.trans hB⟩
theorem SSt.below {W' : World} (h : SSt w0 W b keys nx E B o) (hB : Below W.heap.size W W') : SSt w0 W' b keys nx E B o := by
  obtain ⟨P, vl, mb, nm, h1, hp, hf, h2, h3, h4, h5, h6, h9⟩ := h
  exact SSt.next_ hf h9 (wide (h1.below hB) h9.size) (Kept.of_below hB P) (hB.mono h9.size) h2 h3 h4 h5 h6
theorem SSt.bel (h : SSt w0 W b keys nx E B o) : Below w0.heap.size w0 W := by
  obtain ⟨P, vl, mb, nm, h1, hp, hf, h2, h3, h4, h5, h6, h9⟩ := h
  exact h9
theorem SSt.box (h : SSt w0 W b keys nx E B o) (x : Obj) (hx : o = some x) : W.heap[B]? = some x := by
  obtain ⟨P, vl, mb, nm, h1, hp, hf, h2, h3, h4, h5, h6, h9⟩ := h
  exact (hf x hx).2
theorem SSt.nice (h : SSt w0 W b keys nx E B o) : ∀ x ∈ E, Nice keys x := by
  obtain ⟨P, vl, mb, nm, h1, hp, hf, h2, h3, h4, h5, h6, h9⟩ := h
  exact h6
theorem SSt.good (h : SSt w0 W b keys nx E B o) : E.Pairwise Ahead ∧ (E.map El.ticket).Nodup := by
  obtain ⟨P, vl, mb, nm, h1, hp, hf, h2, h3, h4, h5, h6, h9⟩ := h
  exact ⟨h1.good.sorted, h1.good.tick⟩
theorem SSt.boxed (h : SSt w0 W b keys nx E B o) (x : Obj) : SSt w0 (W.alloc x) b keys nx E W.heap.size (some x) := by
  obtain ⟨P, vl, mb, nm, h1, hp, hf, h2, h3, h4, h5, h6, h9⟩ := h
  refine ⟨P, vl, mb, nm, h1.below (below_alloc (Below.refl _ _) _), fun k hk => ?_, fun y hy => ?_, h2, h3, h4, h5, h6, below_alloc h9 _⟩
  · rw [World.size_alloc]
    have := hp k hk
    omega
  · cases hy
    exact ⟨fun hk => by have := hp _ hk; omega, heap_alloc_new W _⟩
/-- The block beside is written. -/
theorem SSt.marks {cs : Array Value} {t : TypeId} (h : SSt w0 W b keys nx E B (some (.cells cs t (0, 0)))) (hBB : w0.heap.size ≤ B) (j : Nat) (u : Value) : SSt w0 (W.setCell ⟨B, j, none⟩ u) b keys nx E B (some (.cells (cs.setIfInBounds j u) t (0, 0))) := by
  obtain ⟨P, vl, mb, nm, h1, hp, hf, h2, h3, h4, h5, h6, h9⟩ := h
  obtain ⟨f1, f2⟩ := hf _ rfl
  have hk : Kept W (W.setCell ⟨B, j, none⟩ u) (fun k => k = B) := (Kept.refl W (fun k => k = B)).setCell (p := ⟨B, j, none⟩) (.inl rfl) _
  refine ⟨P, vl, mb, nm, h1.kept hk (fun k h e => f1 (e ▸ h)), fun k hk => by simpa using hp k hk, fun x hx => ?_, h2, h3, h4, h5, h6, h9.setCell (p := ⟨B, j, none⟩) hBB _⟩
  cases hx
  exact ⟨f1, cells_set f2 j u⟩
theorem s_len (h : SSt w0 W b keys nx E B o) : Calls Try.prog 13 #[.pointer (some ⟨b, 0, none⟩)] W fun e w' => e = .returned (.int .i64 (E.length : Int)) ∧ w' = W := by
  obtain ⟨P, vl, mb, nm, h1, hp, hf, h2, h3, h4, h5, h6, h9⟩ := h
  exact len_calls h1
theorem s_put (h : SSt w0 W b keys nx E B o) (hi : nx < keys.length) (k : ByteArray) (hk : k = keys.getD nx ByteArray.empty) : Calls Try.prog 9 #[.pointer (some ⟨b, 0, none⟩), .string k, .int .i64 (nx : Int)] W fun e w' => e = .returned (.tuple #[.int .i64 (nx : Int), .int .i64 0]) ∧ ∃ E', E'.length = E.length + 1 ∧ SSt w0 w' b keys (nx + 1) E' B o := by
  obtain ⟨P, vl, mb, nm, h1, hp, hf, h2, h3, h4, h5, h6, h9⟩ := h
  refine (put_calls h1 k (nx : Int) (by omega) (by omega) (by omega) (by omega) (by omega)).mono ?_
  rintro e w' ⟨rfl, vl', p, hQ, hK, hB⟩
  refine ⟨rfl, _, ins_len E _, SSt.next_ hf h9 hQ hK hB (by omega) (by omega) (by rw [ins_len]; omega) h5 (fun x hx => ?_)⟩
  rcases List.mem_cons.1 ((ins_perm _ E).mem_iff.1 hx) with rfl | hx
  · exact ⟨rfl, rfl, by show (0 : Int) ≤ nx; omega, by show (nx : Int) < _; omega, by show k = keys.getD (nx : Int).toNat _; rw [Int.toNat_natCast]; exact hk⟩
  · exact h6 x hx
theorem s_first (h : SSt w0 W b keys nx E B o) (hE : 0 < E.length) : Calls Try.prog 10 #[.pointer (some ⟨b, 0, none⟩)] W fun e w' => (∃ k v t, e = .returned (.tuple #[.string k, .int .i64 v, .int .i64 t, .bool true])) ∧ SSt w0 w' b keys nx E B o := by
  have hh := h
  obtain ⟨P, vl, mb, nm, h1, hp, hf, h2, h3, h4, h5, h6, h9⟩ := h
  refine (first_some h1 hE).mono ?_
  rintro e w' ⟨rfl, q, rfl⟩
  exact ⟨⟨_, _, _, rfl⟩, hh.below (pw_below_drewN (Below.refl _ _) q)⟩
theorem s_pop (h : SSt w0 W b keys nx E B o) (hE : 0 < E.length) : Calls Try.prog 12 #[.pointer (some ⟨b, 0, none⟩)] W fun e w' => e = .returned (.tuple #[.string E[0]!.k, .int .i64 E[0]!.v, .int .i64 E[0]!.ticket, .bool true]) ∧ SSt w0 w' b keys nx (E.eraseIdx 0) B o := by
  obtain ⟨P, vl, mb, nm, h1, hp, hf, h2, h3, h4, h5, h6, h9⟩ := h
  refine (pop_some h1 hE (by omega) (by omega)).mono ?_
  rintro e w' ⟨rfl, vl', hQ, hK, hB⟩
  exact ⟨rfl, SSt.next_ hf h9 (wide hQ h9.size) hK hB h2 h3 (by rw [erase_len E 0 hE]; omega) h5 (fun x hx => h6 x (List.mem_of_mem_eraseIdx hx))⟩
theorem s_poplast (h : SSt w0 W b keys nx E B o) (hE : 0 < E.length) : Calls Try.prog 11 #[.pointer (some ⟨b, 0, none⟩)] W fun e w' => e = .returned (.tuple #[.string E[E.length - 1]!.k, .int .i64 E[E.length - 1]!.v, .int .i64 E[E.length - 1]!.ticket, .bool true]) ∧ SSt w0 w' b keys nx (E.eraseIdx (E.length - 1)) B o := by
  obtain ⟨P, vl, mb, nm, h1, hp, hf, h2, h3, h4, h5, h6, h9⟩ := h
  refine (poplast_some h1 hE (by omega) (by omega)).mono ?_
  rintro e w' ⟨rfl, vl', hQ, hK, hB⟩
  exact ⟨rfl, SSt.next_ hf h9 (wide hQ h9.size) hK hB h2 h3 (by rw [erase_len E _ (by omega)]; omega) h5 (fun x hx => h6 x (List.mem_of_mem_eraseIdx hx))⟩
theorem s_pop_none (h : SSt w0 W b keys nx [] B o) : Calls Try.prog 12 #[.pointer (some ⟨b, 0, none⟩)] W fun e w' => e = .returned (.tuple #[.string ByteArray.empty, .int .i64 0, .int .i64 0, .bool false]) ∧ SSt w0 w' b keys nx [] B o := by
  have hh := h
  obtain ⟨P, vl, mb, nm, h1, hp, hf, h2, h3, h4, h5, h6, h9⟩ := h
  refine (pop_none h1).mono ?_
  rintro e w' ⟨rfl, hB⟩
  exact ⟨rfl, hh.below hB⟩
end
/-- What stands ahead of all that are left, or nothing was taken yet. -/
def Was (E : List El) (was : ByteArray) (at_ : Int) : Prop := at_ = -1 ∨ ∃ y : El, y.k = was ∧ y.v = at_ ∧ y.came = y.v ∧ 0 ≤ at_ ∧ ∀ x ∈ E, Ahead y x
/-- The same from the other end. -/
def WasL (E : List El) (was : ByteArray) (at_ : Int) : Prop := at_ = -1 ∨ ∃ y : El, y.k = was ∧ y.v = at_ ∧ y.came = y.v ∧ 0 ≤ at_ ∧ ∀ x ∈ E, Ahead x y
theorem klt_asymm {a b : ByteArray} (h : klt a b = true) : klt b a = false := by
  cases hh : klt b a with
  | false => rfl
  | true => have := klt_trans h hh; rw [klt_irrefl] at this; cases this
theorem beq_list (a b : ByteArray) : (a.toList == b.toList) = decide (a = b) := by
  by_cases c : a = b
  · rw [c, decide_eq_true rfl, beq_self_eq_true]
  · rw [decide_eq_false c, beq_eq_false_iff_ne]
    exact fun e => c (bytes_ext e)
theorem Was.test {E : List El} {was : ByteArray} {at_ : Int} {x : El} (h : Was E was at_) (hx : x ∈ E) (hv : x.came = x.v) : at_ = -1 ∨ (0 ≤ at_ ∧ Op.bytesLess x.k.toList was.toList = false ∧ ((x.k.toList == was.toList) = false ∨ ((x.k.toList == was.toList) = true ∧ ¬ x.v < at_))) := by
  rcases h with h | ⟨y, h1, h2, h3, h4, h5⟩
  · exact .inl h
  · refine .inr ⟨h4, ?_⟩
    rcases h5 x hx with h | ⟨ha, hb⟩
    · rw [h1] at h
      refine ⟨klt_asymm h, .inl ?_⟩
      rw [beq_list, decide_eq_false_iff_not]
      intro e
      rw [e, klt_irrefl] at h
      cases h
    · have e : x.k = was := by rw [← ha, h1]
      refine ⟨by rw [e]; exact klt_irrefl was, .inr ⟨by rw [e]; exact beq_self_eq_true _, by omega⟩⟩
theorem WasL.test {E : List El} {was : ByteArray} {at_ : Int} {x : El} (h : WasL E was at_) (hx : x ∈ E) (hv : x.came = x.v) : at_ = -1 ∨ (0 ≤ at_ ∧ klt was x.k = false ∧ ((x.k.toList == was.toList) = false ∨ ((x.k.toList == was.toList) = true ∧ ¬ at_ < x.v))) := by
  rcases h with h | ⟨y, h1, h2, h3, h4, h5⟩
  · exact .inl h
  · refine .inr ⟨h4, ?_⟩
    rcases h5 x hx with h | ⟨ha, hb⟩
    · rw [h1] at h
      refine ⟨klt_asymm h, .inl ?_⟩
      rw [beq_list, decide_eq_false_iff_not]
      intro e
      rw [e, klt_irrefl] at h
      cases h
    · have e : x.k = was := by rw [ha, h1]
      refine ⟨by rw [e]; exact klt_irrefl was, .inr ⟨by rw [e]; exact beq_self_eq_true _, by omega⟩⟩
theorem Was.next_ {E : List El} (hs : E.Pairwise Ahead) (hE : 0 < E.length) (hn : E[0]!.came = E[0]!.v) (h0 : 0 ≤ E[0]!.v) : Was (E.eraseIdx 0) E[0]!.k E[0]!.v := by
  refine .inr ⟨E[0]!, rfl, rfl, hn, h0, fun x hx => ?_⟩
  cases E with
  | nil => simp at hE
  | cons a r =>
    rw [List.pairwise_cons] at hs
    exact hs.1 x hx
theorem WasL.next_ {E : List El} (hs : E.Pairwise Ahead) (hE : 0 < E.length) (hn : E[E.length - 1]!.came = E[E.length - 1]!.v) (h0 : 0 ≤ E[E.length - 1]!.v) : WasL (E.eraseIdx (E.length - 1)) E[E.length - 1]!.k E[E.length - 1]!.v := by
  refine .inr ⟨E[E.length - 1]!, rfl, rfl, hn, h0, fun x hx => ?_⟩
  have hl := erase_len E (E.length - 1) (by omega)
  obtain ⟨j, hj, e⟩ := List.getElem_of_mem hx
  rw [List.getElem_eraseIdx_of_lt _ (by omega)] at e
  rw [← e, getElem!_pos E (E.length - 1) (by omega)]
  exact List.pairwise_iff_getElem.1 hs j (E.length - 1) (by omega) (by omega) (by omega)
end Go.Proofs.Ytgolghimefageaa.QS
