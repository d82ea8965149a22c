/- QueueTickets: what each call does to a queue whose tickets are counted. -/
import Derived.Test.YtgolghimefageaaQAwake
namespace Go.Proofs.Ytgolghimefageaa.QT
set_option linter.unusedVariables false
open Go.Proofs Go.RowKit Go.Shelf Go.Lib Go.Maps Go.Proofs.YtgolghimefageaaW.PrintWords Go.Proofs.YtgolghimefageaaW.PrintLast Go.Proofs.YtgolghimefageaaW.PrintMore Go.Proofs.Ytgolghimefageaa.St
/-- A block beside the queue. -/
def Fx (B : Nat) (o : Option Obj) (P : Nat → Prop) (W : World) : Prop := ∀ x, o = some x → ¬ P B ∧ W.heap[B]? = some x
theorem Fx.step {B : Nat} {o : Option Obj} {P : Nat → Prop} {W W' : World} (h : Fx B o P W) (hk : Kept W W' P) : Fx B o (fun k => (P k ∨ W.heap.size ≤ k) ∧ k < W'.heap.size) W' := by
  intro x hx
  obtain ⟨h1, h2⟩ := h x hx
  have hlt := (Array.getElem?_eq_some_iff.1 h2).1
  refine ⟨fun h3 => ?_, blk_kept h2 hk h1⟩
  rcases h3.1 with h3 | h3
  · exact h1 h3
  · omega
theorem QAt.tight {n0 : Nat} {w : World} {P : Nat → Prop} {b : Nat} {vl : Value} {mb nm : Nat} {E : List El} {most came next : Int} (h : QAt n0 w P b vl mb nm E most came next) : QAt n0 w (fun k => P k ∧ k < w.heap.size) b vl mb nm E most came next := by
  obtain ⟨D, hm, hD⟩ := h.map
  exact ⟨fun k hk => h.hP k hk.1, ⟨h.pb, h.lt⟩, ⟨h.pm, hm.lt⟩, fun k e => ⟨h.pl k e, (h.row.lt k e).2⟩, fun x hx => ⟨h.pe x hx, (Array.getElem?_eq_some_iff.1 (h.els x hx)).1⟩, h.blk, h.row, h.els, ⟨D, hm, hD⟩, h.good⟩
/-- A queue behind some calls: `next` tickets were given, n elements are there, i calls were made; the block B beside it holds o. -/
def TSt (w0 W : World) (b : Nat) (most : Int) (next i n B : Nat) (o : Option Obj) : Prop :=
  ∃ P vl mb nm E came, QAt w0.heap.size W P b vl mb nm E most came (next : Int) ∧ (∀ k, P k → k < W.heap.size) ∧ Fx B o P W ∧ E.length = n ∧ (n : Int) ≤ most ∧ most ≤ 65536 ∧ 0 ≤ came ∧ came ≤ (i : Int) ∧ nm ≤ i ∧ next ≤ i ∧ Below w0.heap.size w0 W
section
variable {w0 W : World} {b : Nat} {most : Int} {next i n B : Nat} {o : Option Obj}
theorem TSt.next_ {W' : World} {P : Nat → Prop} {vl : Value} {mb nm : Nat} {E : List El} {came : Int} {next' i' n' : Nat} (hf : Fx B o P W) (h9 : Below w0.heap.size w0 W) (hQ : QAt w0.heap.size W' (fun k => P k ∨ W.heap.size ≤ k) b vl mb nm E most came (next' : Int)) (hK : Kept W W' P) (hB : Below w0.heap.size W W')
    (h1 : E.length = n') (h2 : (n' : Int) ≤ most) (h3 : most ≤ 65536) (h4 : 0 ≤ came) (h5 : came ≤ (i' : Int)) (h6 : nm ≤ i') (h7 : next' ≤ i') : TSt w0 W' b most next' i' n' B o :=
  ⟨_, vl, mb, nm, E, came, hQ.tight, fun k hk => hk.2, hf.step hK, h1, h2, h3, h4, h5, h6, h7, h9.trans hB⟩
theorem wide {n0 : Nat} {P : Nat → Prop} {W' : World} {vl : Value} {mb nm : Nat} {E : List El} {came nx : Int} (hQ : QAt n0 W' P b vl mb nm E most came nx) (hn : n0 ≤ W.heap.size) : QAt n0 W' (fun k => P k ∨ W.heap.size ≤ k) b vl mb nm E most came nx :=
  hQ.mono (fun k h => .inl h) (fun k h => h.elim (hQ.hP k) (fun h => Nat.le_trans hn h))
theorem TSt.below {W' : World} (h : TSt w0 W b most next i n B o) (hB : Below W.heap.size W W') : TSt w0 W' b most next i n B o := by
  obtain ⟨P, vl, mb, nm, E, came, h1, hp, hf, h2, h3, h4, h5, h6, h7, h8, h9⟩ := h
  exact TSt.next_ hf h9 (wide (h1.below hB) h9.size) (Kept.of_below hB P) (hB.mono h9.size) h2 h3 h4 h5 h6 h7 h8
theorem TSt.later {j : Nat} (h : TSt w0 W b most next i n B o) (hij : i ≤ j) : TSt w0 W b most next j n B o := by
  obtain ⟨P, vl, mb, nm, E, came, h1, hp, hf, h2, h3, h4, h5, h6, h7, h8, h9⟩ := h
  exact ⟨P, vl, mb, nm, E, came, h1, hp, hf, h2, h3, h4, h5, by omega, by omega, by omega, h9⟩
theorem TSt.bel (h : TSt w0 W b most next i n B o) : Below w0.heap.size w0 W := by
  obtain ⟨P, vl, mb, nm, E, came, h1, hp, hf, h2, h3, h4, h5, h6, h7, h8, h9⟩ := h
  exact h9
theorem TSt.box (h : TSt w0 W b most next i n B o) (x : Obj) (hx : o = some x) : W.heap[B]? = some x := by
  obtain ⟨P, vl, mb, nm, E, came, h1, hp, hf, h2, h3, h4, h5, h6, h7, h8, h9⟩ := h
  exact (hf x hx).2
theorem TSt.free (h : TSt w0 W b most next i n B o) : TSt w0 W b most next i n 0 none := by
  obtain ⟨P, vl, mb, nm, E, came, h1, hp, hf, h2, h3, h4, h5, h6, h7, h8, h9⟩ := h
  exact ⟨P, vl, mb, nm, E, came, h1, hp, (fun x hx => by cases hx), h2, h3, h4, h5, h6, h7, h8, h9⟩
theorem TSt.boxed (h : TSt w0 W b most next i n B o) (x : Obj) : TSt w0 (W.alloc x) b most next i n W.heap.size (some x) := by
  obtain ⟨P, vl, mb, nm, E, came, h1, hp, hf, h2, h3, h4, h5, h6, h7, h8, h9⟩ := h
  refine ⟨P, vl, mb, nm, E, came, h1.below (below_alloc (Below.refl _ _) _), fun k hk => ?_, fun y hy => ?_, h2, h3, h4, h5, h6, h7, h8, below_alloc h9 _⟩
  · rw [World.size_alloc]
    have := hp k hk
    omega
  · cases hy
    exact ⟨fun hk => by have := hp _ hk; omega, heap_alloc_new W _⟩
theorem TSt.bounds (h : TSt w0 W b most next i n B o) : (n : Int) ≤ most ∧ most ≤ 65536 ∧ next ≤ i := by
  obtain ⟨P, vl, mb, nm, E, came, h1, hp, hf, h2, h3, h4, h5, h6, h7, h8, h9⟩ := h
  exact ⟨h3, h4, h8⟩
theorem t_len (h : TSt w0 W b most next i n B o) : Calls Try.prog 16 #[.pointer (some ⟨b, 0, none⟩)] W fun e w' => e = .returned (.int .i64 (n : Int)) ∧ w' = W := by
  obtain ⟨P, vl, mb, nm, E, came, h1, hp, hf, h2, h3, h4, h5, h6, h7, h8, h9⟩ := h
  rw [← h2]
  exact len_calls h1
theorem index_of {E : List El} {x : El} (h : x ∈ E) : ∃ j, j < E.length ∧ E[j]! = x := by
  obtain ⟨j, hj, e⟩ := List.getElem_of_mem h
  exact ⟨j, hj, by rw [getElem!_pos E j hj]; exact e⟩
theorem t_put (h : TSt w0 W b most next i n B o) (hi : i < 4611686018427387900) (hn : (n : Int) < most) (k : Int) (v : ByteArray) : Calls Try.prog 17 #[.pointer (some ⟨b, 0, none⟩), .int .i64 k, .string v] W fun e w' => e = .returned (.tuple #[.int .i64 (next : Int), .int .i64 0]) ∧ TSt w0 w' b most (next + 1) (i + 1) (n + 1) B o ∧
    Calls Try.prog 18 #[.pointer (some ⟨b, 0, none⟩), .int .i64 (next : Int)] w' fun e w2 => e = .returned (.tuple #[.int .i64 k, .string v, .bool true]) ∧ ∃ q, w2 = w'.drewN q := by
  obtain ⟨P, vl, mb, nm, E, came, h1, hp, hf, h2, h3, h4, h5, h6, h7, h8, h9⟩ := h
  refine (put_calls h1 k v (by omega) (by omega) (by omega) (by omega) (by omega)).mono ?_
  rintro e w' ⟨rfl, vl', p, hQ, hK, hB⟩
  obtain ⟨j, hj, hx⟩ := index_of ((ins_perm ⟨p, k, v, came, (next : Int)⟩ E).mem_iff.2 List.mem_cons_self)
  have hg := get_yes hQ j hj (by omega)
  rw [hx] at hg
  refine ⟨rfl, TSt.next_ hf h9 hQ hK hB ?_ (by omega) h4 (by omega) (by omega) (by omega) (by omega), hg⟩
  rw [ins_len, h2]
theorem t_put_full (h : TSt w0 W b most next i n B o) (hn : ¬ (n : Int) < most) (k : Int) (v : ByteArray) : Calls Try.prog 17 #[.pointer (some ⟨b, 0, none⟩), .int .i64 k, .string v] W fun e w' => e = .returned (.tuple #[.int .i64 0, .int .i64 61]) ∧ TSt w0 w' b most next i n B o := by
  have hh := h
  obtain ⟨P, vl, mb, nm, E, came, h1, hp, hf, h2, h3, h4, h5, h6, h7, h8, h9⟩ := h
  refine (put_full h1 k v (by omega)).mono ?_
  rintro e w' ⟨rfl, q, rfl⟩
  exact ⟨rfl, hh.below (pw_below_drewN (Below.refl _ _) q)⟩
theorem t_get (h : TSt w0 W b most next i n B o) (t : Int) (ht : -9223372036854775808 ≤ t ∧ t ≤ 9223372036854775807) (hno : ∀ P vl mb nm E came, QAt w0.heap.size W P b vl mb nm E most came (next : Int) → E.length = n → ∀ x ∈ E, x.ticket ≠ t) :
    Calls Try.prog 18 #[.pointer (some ⟨b, 0, none⟩), .int .i64 t] W fun e w2 => e = .returned (.tuple #[.int .i64 0, .string ByteArray.empty, .bool false]) ∧ TSt w0 w2 b most next i n B o := by
  have hh := h
  obtain ⟨P, vl, mb, nm, E, came, h1, hp, hf, h2, h3, h4, h5, h6, h7, h8, h9⟩ := h
  refine (get_no h1 t ht (hno P vl mb nm E came h1 h2)).mono ?_
  rintro e w' ⟨rfl, hB⟩
  exact ⟨rfl, hh.below hB⟩
theorem t_get_next (h : TSt w0 W b most next i n B o) (hi : i < 4611686018427387900) : Calls Try.prog 18 #[.pointer (some ⟨b, 0, none⟩), .int .i64 (next : Int)] W fun e w2 => e = .returned (.tuple #[.int .i64 0, .string ByteArray.empty, .bool false]) ∧ TSt w0 w2 b most next i n B o := by
  have hb := h.bounds
  refine t_get h next (by omega) (fun P vl mb nm E came h1 h2 x hx => ?_)
  have := (h1.good.range x hx).2.1
  omega
theorem t_pop (h : TSt w0 W b most next i n B o) (hi : i < 4611686018427387900) (hn : 0 < n) : Calls Try.prog 19 #[.pointer (some ⟨b, 0, none⟩)] W fun e w' => ∃ (k : Int) (v : ByteArray) (t : Int), e = .returned (.tuple #[.int .i64 k, .string v, .int .i64 t, .bool true]) ∧ 0 ≤ t ∧ t < (next : Int) ∧ (∃ n2, TSt w0 w' b most next i n2 B o) ∧
    Calls Try.prog 18 #[.pointer (some ⟨b, 0, none⟩), .int .i64 t] w' fun e w2 => e = .returned (.tuple #[.int .i64 0, .string ByteArray.empty, .bool false]) ∧ Below w'.heap.size w' w2 := by
  obtain ⟨P, vl, mb, nm, E, came, h1, hp, hf, h2, h3, h4, h5, h6, h7, h8, h9⟩ := h
  refine (pop_some h1 (by omega) (by omega) (by omega)).mono ?_
  rintro e w' ⟨rfl, vl', hQ, hK, hB⟩
  have hx : E[0]! ∈ E := by rw [getElem!_pos E 0 (by omega)]; exact List.getElem_mem (by omega)
  have hr := h1.good.range _ hx
  have he := h1.good.erase 0 (by omega)
  refine ⟨_, _, _, rfl, hr.1, hr.2.1, ⟨n - 1, TSt.next_ hf h9 (wide hQ h9.size) hK hB ?_ (by omega) h4 h5 h6 h7 h8⟩, get_no hQ _ (by omega) (fun x hx e => he.2.2.1 (by rw [← e]; exact List.mem_map.2 ⟨x, hx, rfl⟩))⟩
  rw [erase_len E 0 (by omega), h2]
theorem t_pop_none (h : TSt w0 W b most next i 0 B o) : Calls Try.prog 19 #[.pointer (some ⟨b, 0, none⟩)] W fun e w' => e = .returned (.tuple #[.int .i64 0, .string ByteArray.empty, .int .i64 0, .bool false]) ∧ TSt w0 w' b most next i 0 B o := by
  have hh := h
  obtain ⟨P, vl, mb, nm, E, came, h1, hp, hf, h2, h3, h4, h5, h6, h7, h8, h9⟩ := h
  obtain rfl := List.length_eq_zero_iff.1 h2
  refine (pop_none h1).mono ?_
  rintro e w' ⟨rfl, hB⟩
  exact ⟨rfl, hh.below hB⟩
theorem t_get_none (h : TSt w0 W b most next i 0 B o) : Calls Try.prog 18 #[.pointer (some ⟨b, 0, none⟩), .int .i64 0] W fun e w2 => e = .returned (.tuple #[.int .i64 0, .string ByteArray.empty, .bool false]) ∧ TSt w0 w2 b most next i 0 B o := by
  refine t_get h 0 (by omega) (fun P vl mb nm E came h1 h2 x hx => ?_)
  obtain rfl := List.length_eq_zero_iff.1 h2
  cases hx
theorem t_clear (h : TSt w0 W b most next i n B o) : Calls Try.prog 20 #[.pointer (some ⟨b, 0, none⟩)] W fun e w' => e = .returned (.tuple #[]) ∧ ∃ n2, TSt w0 w' b most next i n2 B o := by
  obtain ⟨P, vl, mb, nm, E, came, h1, hp, hf, h2, h3, h4, h5, h6, h7, h8, h9⟩ := h
  refine (clear_calls h1).mono ?_
  rintro e w' ⟨rfl, hQ, hK, hB⟩
  exact ⟨rfl, 0, TSt.next_ hf h9 (wide hQ h9.size) hK hB rfl (by omega) h4 h5 h6 (by omega) h8⟩
theorem t_remove (h : TSt w0 W b most next i n B o) (hi : i < 4611686018427387900) (t : Int) (ht : -9223372036854775808 ≤ t ∧ t ≤ 9223372036854775807) : Calls Try.prog 21 #[.pointer (some ⟨b, 0, none⟩), .int .i64 t] W fun e w' => ∃ (v : ByteArray) (ok : Bool), e = .returned (.tuple #[.string v, .bool ok]) ∧ ∃ n2, TSt w0 w' b most next i n2 B o := by
  have hh := h
  obtain ⟨P, vl, mb, nm, E, came, h1, hp, hf, h2, h3, h4, h5, h6, h7, h8, h9⟩ := h
  by_cases c : ∃ x ∈ E, x.ticket = t
  · obtain ⟨x, hx, rfl⟩ := c
    obtain ⟨j, hj, rfl⟩ := index_of hx
    refine (remove_yes h1 j hj (by omega) (by omega)).mono ?_
    rintro e w' ⟨rfl, vl', hQ, hK, hB⟩
    refine ⟨_, _, rfl, n - 1, TSt.next_ hf h9 (wide hQ h9.size) hK hB ?_ (by omega) h4 h5 h6 h7 h8⟩
    rw [erase_len E j hj, h2]
  · refine (remove_no h1 t ht (fun x hx e => c ⟨x, hx, e⟩)).mono ?_
    rintro e w' ⟨rfl, hB⟩
    exact ⟨_, _, rfl, n, hh.below hB⟩
end
theorem kind_in (k : Int) : (wrap64 (k.tmod 5 + 5)).tmod 5 = 0 ∨ (wrap64 (k.tmod 5 + 5)).tmod 5 = 1 ∨ (wrap64 (k.tmod 5 + 5)).tmod 5 = 2 ∨ (wrap64 (k.tmod 5 + 5)).tmod 5 = 3 ∨ (wrap64 (k.tmod 5 + 5)).tmod 5 = 4 := by
  have h1 : k.tmod 5 < 5 := Int.tmod_lt_of_pos k (by omega)
  have h2 : -5 < k.tmod 5 := Int.lt_tmod_of_pos k (by omega)
  obtain ⟨r, hr⟩ : ∃ r, r = k.tmod 5 := ⟨_, rfl⟩
  rw [← hr] at h1 h2 ⊢
  have h3 : wrap64 (r + 5) = r + 5 := by unfold wrap64; omega
  rw [h3, Int.tmod_eq_emod_of_nonneg (by omega)]
  omega
theorem kind_calls (k : Int) (w : World) : Calls Try.prog 15 #[.int .i64 k, .int .i64 5] w fun e w' => ∃ c : Int, e = .returned (.int .i64 c) ∧ (c = 0 ∨ c = 1 ∨ c = 2 ∨ c = 3 ∨ c = 4) ∧ w' = w := by
  go_enter Try.func15, Try.ntmps15
  go_wp2
  go_ret
  exact ⟨(wrap64 (k.tmod 5 + 5)).tmod 5, rfl, kind_in k, rfl⟩
end Go.Proofs.Ytgolghimefageaa.QT
