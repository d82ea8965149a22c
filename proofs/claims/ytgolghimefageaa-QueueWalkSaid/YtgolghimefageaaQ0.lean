/- A queue's kit: rows of one cell, blocks that lie, the map of tickets. -/
import Derived.WalkKit
import Derived.Deep.LoopGhost
import Derived.Deep.RegionHeldLaw
import Derived.Deep.AppendLies
import Derived.Deep.MidRow
import Derived.Laws.OwnMore
import Derived.Lib.Hide
import Derived.Lib.Walk
import Derived.Lib.SliceRun
import Derived.Lib.JoinLaws
import Derived.Lib.AppendZeros
import Derived.Lib.Overlaps
import Derived.Laws.Externs
import Derived.Laws.IdiomCopy
import Derived.Shelf.RegionOpenPlain
import Derived.Shelf.Spec.SlicesInsert
import Derived.Shelf.Spec.SlicesInsertGrow
import Derived.Shelf.SlicesE.Index
import Derived.Shelf.SlicesE.Delete
import Derived.Maps.OwnOps
import Derived.Maps.OwnSet
import Derived.Maps.Views
import Derived.Maps.AppendAt
import Derived.KernelRfl
import Derived.Below
import Derived.Test.YtgolghimefageaaProg
import Derived.Test.YtgolghimefageaaWMore
namespace Go.Proofs.Ytgolghimefageaa.St
open Go.Proofs Go.RowKit Go.Maps Go.ChangeMaps Go.MapKept Go.Proofs.YtgolghimefageaaW.PrintWords Go.Proofs.YtgolghimefageaaW.PrintLast Go.Proofs.YtgolghimefageaaW.PrintMore
theorem set_other {w : World} {v : Value} {n : Nat} {base : Nat} {e : TypeId} {size : Nat} {xs : List Value} (h : w.ownsRow base e size v n xs) (b j : Nat) (u : Value) (hne : v.ownBlock ≠ some b) : (w.setCell ⟨b, j, none⟩ u).ownsRow base e size v n xs := by
  refine ⟨h.1, ?_⟩
  rcases h.2 with hn | ⟨g, cap, cur, rfl, hb, hgg, rest⟩
  · exact .inl hn
  · refine .inr ⟨g, cap, cur, rfl, hb, ?_, rest⟩
    rw [Below.heap_setCell w ⟨b, j, none⟩ _ g (by intro e; exact hne (by show some g = some b; exact congrArg some e))]
    exact hgg
theorem grown_of {w w1 : World} {o : Obj} {row : Option Nat} {k : Nat} (hg : ((w.alloc o).drewN k).grownBy w1 row) : w.grownBy w1 row :=
  ⟨hg.os, hg.tape, hg.output, Nat.le_trans (by show w.heap.size ≤ (w.heap.push _).size; simp) hg.size, fun i hi hne => (hg.block i (Nat.lt_of_lt_of_le hi (by show w.heap.size ≤ (w.heap.push _).size; simp)) hne).trans (by first | exact heap_alloc_old w o hi | exact heap_alloc_old w o i hi)⟩
theorem own_form {w : World} {base : Nat} {e : TypeId} {size : Nat} {v : Value} {n : Nat} {xs : List Value} (h : w.ownsRow base e size v n xs) : ∃ a cap, v = .slice a n cap := by
  rcases h.2 with ⟨rfl, rfl⟩ | ⟨g, cap, _, rfl, _⟩
  · exact ⟨none, 0, rfl⟩
  · exact ⟨_, cap, rfl⟩
theorem own_some {w : World} {base : Nat} {e : TypeId} {size : Nat} {v : Value} {n : Nat} {xs : List Value} (h : w.ownsRow base e size v n xs) (hn : 0 < n) : ∃ g cap, v = .slice (some ⟨g, 0, none⟩) n cap ∧ base ≤ g ∧ g < w.heap.size := by
  rcases h.2 with ⟨_, rfl⟩ | ⟨g, cap, _, rfl, hb, hg, _⟩
  · omega
  · exact ⟨g, cap, rfl, hb, (Array.getElem?_eq_some_iff.1 hg).1⟩
theorem own_cell {w : World} {base : Nat} {e : TypeId} {size : Nat} {g n cap : Nat} {xs : List Value} (h : w.ownsRow base e size (.slice (some ⟨g, 0, none⟩) n cap) n xs) (j : Nat) (u : Value) (hu : xs[j]? = some u) : w.cell? ⟨g, j, none⟩ = some u := by
  have hc := h.cells (g := g) rfl j u hu
  rwa [show (⟨g, 0, none⟩ : Addr).add j = ⟨g, j, none⟩ from by unfold Addr.add; split <;> simp_all] at hc
theorem own_frozen {w : World} {base : Nat} {e : TypeId} {size : Nat} {g n cap : Nat} {xs : List Value} (h : w.ownsRow base e size (.slice (some ⟨g, 0, none⟩) n cap) n xs) (j : Nat) : w.frozen? ⟨g, j, none⟩ = false := by
  rcases h.2 with ⟨h', _⟩ | ⟨g', cap', cur, h', _, hh, _⟩
  · cases h'
  · injection h' with h1
    injection h1 with h1
    injection h1 with h1
    subst h1
    unfold World.frozen?
    rw [hh]
    simp
theorem own_cap {w : World} {base : Nat} {e : TypeId} {size : Nat} {g n cap : Nat} {xs : List Value} (h : w.ownsRow base e size (.slice (some ⟨g, 0, none⟩) n cap) n xs) : n ≤ cap := by
  rcases h.2 with ⟨h', _⟩ | ⟨g', cap', cur, h', _, _, hn, _⟩
  · cases h'
  · injection h' with _ _ h3
    omega
def setAll : Array Value → Nat → List Value → Array Value
  | cur, _, [] => cur
  | cur, o, v :: vs => setAll (cur.setIfInBounds o v) (o + 1) vs
theorem setAll_size : ∀ (vs : List Value) (cur : Array Value) (o : Nat), (setAll cur o vs).size = cur.size
  | [], _, _ => rfl
  | v :: vs, cur, o => by rw [setAll, setAll_size vs]; exact Array.size_setIfInBounds
theorem setAll_list : ∀ (vs : List Value) (cur : Array Value) (o : Nat), o + vs.length ≤ cur.size → (setAll cur o vs).toList = cur.toList.take o ++ vs ++ cur.toList.drop (o + vs.length)
  | [], cur, o, _ => by rw [setAll, List.append_nil, List.length_nil, Nat.add_zero, List.take_append_drop]
  | v :: vs, cur, o, h => by
    rw [List.length_cons] at h
    have hl : o < cur.toList.length := by rw [Array.length_toList]; omega
    rw [setAll, setAll_list vs _ (o + 1) (by rw [Array.size_setIfInBounds]; omega), Array.toList_setIfInBounds]
    have e1 : (cur.toList.set o v).take (o + 1) = cur.toList.take o ++ [v] := by
      rw [List.take_set, List.take_succ_eq_append_getElem hl, List.set_append_right _ _ (by rw [List.length_take]; omega), List.length_take, Nat.min_eq_left (Nat.le_of_lt hl), Nat.sub_self]
      rfl
    have e2 : (cur.toList.set o v).drop (o + 1 + vs.length) = cur.toList.drop (o + 1 + vs.length) := List.drop_set_of_lt (by omega)
    rw [e1, e2, List.length_cons, List.append_assoc, List.append_assoc, List.append_assoc, show o + (vs.length + 1) = o + 1 + vs.length by omega]
    rfl
theorem setCells_here {e : TypeId} {g : Nat} : ∀ (vs : List Value) (o : Nat) (cur : Array Value) (w : World), w.heap[g]? = some (.cells cur e (0, 0)) → (w.setCells g o vs).heap[g]? = some (.cells (setAll cur o vs) e (0, 0))
  | [], _, _, _, h => h
  | v :: vs, o, cur, w, h => setCells_here vs (o + 1) _ (w.setCell ⟨g, o, none⟩ v) (heap_setCell_same w g o cur e v h)
theorem setCells_grown {g : Nat} : ∀ (vs : List Value) (o : Nat) (w : World), w.grownBy (w.setCells g o vs) (some g)
  | [], _, w => ⟨rfl, rfl, rfl, Nat.le_refl _, fun _ _ _ => rfl⟩
  | v :: vs, o, w => by
    have h := setCells_grown (g := g) vs (o + 1) (w.setCell ⟨g, o, none⟩ v)
    have hs : (w.setCell ⟨g, o, none⟩ v).heap.size = w.heap.size := by simp
    exact ⟨h.os, h.tape, h.output, by have := h.size; rw [hs] at this; exact this, fun k hk hne => (h.block k (by rw [hs]; exact hk) hne).trans (heap_setCell_other w ⟨g, o, none⟩ k v (fun e => hne (by rw [e])))⟩
theorem put_in {w : World} {n0 g cap n i : Nat} {e : TypeId} {cs : List Value} (x : Value) (hown : w.ownsRow n0 e 1 (.slice (some ⟨g, 0, none⟩) n cap) n cs) (hi : i ≤ n) (hroom : n + 1 ≤ cap) (W : World) (hW : W.heap = w.heap) (hos : W.os = w.os) (htp : W.tape = w.tape) (hout : W.output = w.output) :
    ((W.setCells g (0 + (i + 1)) (cs.drop i)).setCells g (0 + i) [x]).ownsRow n0 e 1 (.slice (some ⟨g, 0, none⟩) (n + 1) cap) (n + 1) (cs.take i ++ x :: cs.drop i) ∧ w.grownBy ((W.setCells g (0 + (i + 1)) (cs.drop i)).setCells g (0 + i) [x]) (some g) := by
  have hl : cs.length = n := by have := hown.1; omega
  constructor
  · rcases hown.2 with ⟨h', _⟩ | ⟨g', cap', cur, h', hb, hh, hn, hm, hs, ht⟩
    · cases h'
    · injection h' with h1 h2 h3
      injection h1 with h1
      injection h1 with h1
      subst h1
      subst h3
      rw [Nat.mul_one] at hs ht
      refine ⟨by rw [List.length_append, List.length_cons, List.length_take, List.length_drop]; omega, .inr ⟨g, cap, _, rfl, hb, setCells_here [x] (0 + i) _ _ (setCells_here (cs.drop i) (0 + (i + 1)) cur W (by rw [hW]; exact hh)), hroom, hm, by rw [setAll_size, setAll_size, hs, Nat.mul_one], ?_⟩⟩
      have hdl : (cs.drop i).length = n - i := by rw [List.length_drop, hl]
      rw [Nat.zero_add, Nat.zero_add, setAll_list _ _ _ (by rw [setAll_size, hs, List.length_singleton]; omega), setAll_list _ _ _ (by rw [hs, hdl]; omega), List.length_singleton, hdl]
      have hcl : cur.toList.length = cap := by rw [Array.length_toList, hs]
      have ht1 : (cur.toList.take (i + 1)).length = i + 1 := by rw [List.length_take, hcl]; omega
      have q1 : (cur.toList.take (i + 1) ++ cs.drop i ++ cur.toList.drop (i + 1 + (n - i))).take i = cs.take i := by
        rw [List.append_assoc, List.take_append_of_le_length (by omega), List.take_take, Nat.min_eq_left (by omega), ← ht, List.take_take, Nat.min_eq_left hi]
      have q2 : (cur.toList.take (i + 1) ++ cs.drop i ++ cur.toList.drop (i + 1 + (n - i))).drop (i + 1) = cs.drop i ++ cur.toList.drop (i + 1 + (n - i)) := by
        rw [List.append_assoc]
        exact List.drop_left' ht1
      rw [q1, q2, Nat.mul_one, List.append_assoc]
      have q3 : cs.take i ++ ([x] ++ (cs.drop i ++ cur.toList.drop (i + 1 + (n - i)))) = (cs.take i ++ x :: cs.drop i) ++ cur.toList.drop (i + 1 + (n - i)) := by
        rw [List.append_assoc]
        rfl
      rw [q3]
      exact List.take_left' (by rw [List.length_append, List.length_cons, List.length_take, List.length_drop]; omega)
  · have h1 := setCells_grown (g := g) (cs.drop i) (0 + (i + 1)) W
    have h2 := setCells_grown (g := g) [x] (0 + i) (W.setCells g (0 + (i + 1)) (cs.drop i))
    exact ⟨h2.os.trans (h1.os.trans hos), h2.tape.trans (h1.tape.trans htp), h2.output.trans (h1.output.trans hout), by have a := h1.size; have b := h2.size; rw [hW] at a; omega, fun k hk hne => (h2.block k (Nat.lt_of_lt_of_le (by rw [hW]; exact hk) h1.size) hne).trans ((h1.block k (by rw [hW]; exact hk) hne).trans (by rw [hW]))⟩
theorem own_there {w : World} {n0 g cap n : Nat} {e : TypeId} {cs : List Value} (hown : w.ownsRow n0 e 1 (.slice (some ⟨g, 0, none⟩) n cap) n cs) : ∃ cur, w.heap[g]? = some (.cells cur e (0, 0)) ∧ cur.size = cap ∧ cap ≤ maxLen := by
  rcases hown.2 with ⟨h', _⟩ | ⟨g', cap', cur, h', hb, hh, hn, hm, hs, ht⟩
  · cases h'
  · injection h' with h1 h2 h3
    injection h1 with h1
    injection h1 with h1
    subst h1
    subst h3
    exact ⟨cur, hh, by omega, hm⟩
theorem keyed_int : Keyed Try.prog 3 := int_keyed Try.underlying3
theorem zero_int (w : World) : (zeroValue 3).run Try.prog w = .ok (.int .i64 0) w := by kernel_rfl
theorem own_same {P : Program} {k : TypeId} {R : Value → Option (DataW Unit × List MemPlace)} {W W' : World} {mb cnt : Nat} {D : DataW Unit} (h : W.ownsMap P k R mb cnt D) (e : W'.heap[mb]? = W.heap[mb]?) : W'.ownsMap P k R mb cnt D := by
  obtain ⟨es, clock, h1, h2⟩ := h
  exact ⟨es, clock, e.trans h1, h2⟩
/-- How a pointer in a map reads. -/
def ptrR : Value → Option (DataW Unit × List MemPlace)
  | .pointer none => some (.lit (.int .i64 (-1)), [])
  | .pointer (some a) => if a = ⟨a.block, 0, none⟩ then some (.lit (.int .i64 (a.block : Int)), []) else none
  | _ => none
theorem ptrR_some (p : Nat) : ptrR (.pointer (some ⟨p, 0, none⟩)) = some (.lit (.int .i64 (p : Int)), []) := by
  show (if (⟨p, 0, none⟩ : Addr) = ⟨p, 0, none⟩ then some (DataW.lit (.int .i64 (p : Int)), []) else none) = _
  rw [if_pos rfl]
theorem ptrR_none : ptrR (.pointer none) = some (.lit (.int .i64 (-1)), []) := rfl
theorem ptrR_inv {v : Value} {p : Nat} {ps : List MemPlace} (h : ptrR v = some (.lit (.int .i64 (p : Int)), ps)) : v = .pointer (some ⟨p, 0, none⟩) := by
  unfold ptrR at h
  split at h
  · injection h with h
    injection h with h _
    injection h with h
    injection h with _ h
    omega
  · rename_i a
    split at h
    · rename_i ha
      injection h with h
      injection h with h _
      injection h with h
      injection h with _ h
      have e : a.block = p := by omega
      rw [ha, e]
    · cases h
  · cases h
/-- The zero value's case: nothing is there. -/
theorem ptrR_gone {v : Value} {ps : List MemPlace} (h : ptrR v = some (.lit (.int .i64 (-1)), ps)) : v = .pointer none := by
  unfold ptrR at h
  split at h
  · rfl
  · split at h
    · injection h with h
      injection h with h _
      injection h with h
      injection h with _ h
      omega
    · cases h
  · cases h
theorem wf_of {n : Int} (h : -9223372036854775808 ≤ n ∧ n ≤ 9223372036854775807) : (Lit.int .i64 n).wf = true := WalkArith.wf_i64 h
theorem key_of {n : Int} (h : -9223372036854775808 ≤ n ∧ n ≤ 9223372036854775807) : keyOf Try.prog 3 (.int .i64 n) = some (.int .i64 n) := keyOf_int_mk Try.underlying3 (wf_of h)
/-- 'clear(m)'. -/
theorem clear_own {w : World} {k t e : TypeId} {R : Value → Option (DataW Unit × List MemPlace)} {b n : Nat} {D : DataW Unit} (h : w.ownsMap Try.prog k R b n D) (ht : Try.prog.underlying t = some (.map k e)) (ty : TypeId) :
    ∃ w', (Builtin.clear_ #[t] ty #[.map (some b)]).run Try.prog w = .ok (.tuple #[]) w' ∧ w'.ownsMap Try.prog k R b 0 (.map []) ∧ w.mapTurned w' b := by
  obtain ⟨es, clock, hb, F, hs, rfl⟩ := h
  refine ⟨setBlock w b (.map #[] clock), ?_, ⟨#[], clock, heap_setBlock_same hb _, ⟨by simp, stamped_empty clock, by simp⟩, Nat.le_refl _, rfl⟩, ⟨es, clock, #[], clock, hb, rfl⟩⟩
  simp [Builtin.clear_, run_underlying ht, Go.MapKept.run_getObj_map hb, Go.MapKept.run_setObj_map _ hb, Result.andThen]
  rfl
theorem wpList_clear_own (w : World) {ops : Array Oper} {rest : List Oper} {o : Oper} {a : Act} {Q : Exit → Act → World → Prop}
    (hg : o.guard = none) (m : Operand) (t : TypeId) (hop : o.op = Op.call { callee := Callee.builtin Builtin.clear, args := #[m], argTypes := #[t] })
    (k e : TypeId) (ht : Try.prog.underlying t = some (.map k e)) (R : Value → Option (DataW Unit × List MemPlace)) (b n : Nat) (D : DataW Unit)
    (hm : a.eval m = .map (some b)) (hown : w.ownsMap Try.prog k R b n D)
    (hK : ∀ w', w'.ownsMap Try.prog k R b 0 (.map []) → w.mapTurned w' b → wpList Try.prog ops Q rest (a.put o.dst (.tuple #[])) w') :
    wpList Try.prog ops Q (o :: rest) a w := by
  refine wpList_plain hg fun K' hK' => ?_
  obtain ⟨w', hrun, r1, r2⟩ := clear_own hown ht o.type
  unfold Oper.wp
  simp [execOp, hop, resolve, invoke, builtin, hm, hrun, Result.andThen]
  exact hK' _ _ (hK w' r1 r2)
theorem list_last (F : List Int) : F = [] ∨ ∃ F' i, F = F' ++ [i] := by
  rcases List.eq_nil_or_concat F with h | ⟨a, b, h⟩
  · exact .inl h
  · exact .inr ⟨a, b, by rw [h, List.concat_eq_append]⟩
end Go.Proofs.Ytgolghimefageaa.St
