/- act.Table: a map of functions; a table filled by one of them. -/
import Derived.WalkKit
import Derived.Deep.LoopGhost
import Derived.Maps.Own
import Derived.Lib.Hide
import Derived.Test.YtjcfhgpaipbedaaProg
import Derived.Test.YtjcfhgpaipbedaaKInvWordsMore
import Derived.Below
namespace Go.Proofs.Ytjcfhgpaipbedaa.St
open Go.Proofs Go.RowKit Go.Proofs.YtjcfhgpaipbedaaW.PrintWords Go.Proofs.YtjcfhgpaipbedaaW.PrintLast Go.Proofs.YtjcfhgpaipbedaaW.PrintMore

/-- A function value is read as its number. -/
def RF (v : Value) : Option (DataW Unit × List MemPlace) :=
  match v with
  | .func (.func f) a b => if a.size = 0 ∧ b.size = 0 then some (.lit (.int .i64 ((f : Int) + 1)), []) else none
  | .nilFunc => some (.lit (.int .i64 0), [])
  | _ => none
theorem RF_inv {v : Value} {n : Int} {ps : List MemPlace} (h : RF v = some (.lit (.int .i64 n), ps)) : (∃ f : Nat, v = .func (.func f) #[] #[] ∧ (f : Int) + 1 = n) ∨ (v = .nilFunc ∧ n = 0) := by
  unfold RF at h
  split at h
  · rename_i f a b
    split at h
    · rename_i hs
      injection h with h
      injection h with h1 h2
      injection h1 with h1
      injection h1 with _ h1
      have ha : a = #[] := Array.eq_empty_of_size_eq_zero hs.1
      have hb : b = #[] := Array.eq_empty_of_size_eq_zero hs.2
      subst ha hb
      exact .inl ⟨f, rfl, h1⟩
    · cases h
  · injection h with h
    injection h with h1 h2
    injection h1 with h1
    injection h1 with _ h1
    exact .inr ⟨rfl, h1.symm⟩
  · cases h
def D3 : DataW Unit := ((((.map [] : DataW Unit).put (.int .i64 1) (.lit (.int .i64 (41 + 1)))).put (.int .i64 2) (.lit (.int .i64 (42 + 1)))).put (.int .i64 3) (.lit (.int .i64 (44 + 1))))
theorem at_D3 (k : Int) : D3.atKey (.int .i64 k) (.lit (.int .i64 0)) = .lit (.int .i64 (if k = 1 then (41 + 1) else if k = 2 then (42 + 1) else if k = 3 then (44 + 1) else 0)) := by
  have e : D3 = .map [(.int .i64 1, .lit (.int .i64 (41 + 1))), (.int .i64 2, .lit (.int .i64 (42 + 1))), (.int .i64 3, .lit (.int .i64 (44 + 1)))] := rfl
  rw [e]
  unfold DataW.atKey
  have s : ∀ a : Int, Lit.sameKey (.int .i64 a) (.int .i64 k) = decide (k = a) := fun a => by
    show decide (IntKind.i64 = IntKind.i64 ∧ a = k) = _
    by_cases h : k = a
    · subst h; simp
    · rw [decide_eq_false h, decide_eq_false (by intro h2; exact h h2.2.symm)]
  by_cases c1 : k = 1
  · subst c1; rfl
  by_cases c2 : k = 2
  · subst c2; rfl
  by_cases c3 : k = 3
  · subst c3; rfl
  simp only [List.find?_cons, List.find?_nil, s, decide_eq_false c1, decide_eq_false c2, decide_eq_false c3]
  rw [if_neg c1, if_neg c2, if_neg c3]

set_option maxRecDepth 100000 in
set_option maxHeartbeats 400000 in
theorem bends_calls (w : World) : Calls Try.prog 25 #[] w fun e w' => e = .returned (.map (some w.heap.size)) ∧ w'.ownsMap (H := Unit) Try.prog 3 RF w.heap.size 3 D3 ∧ Below w.heap.size w w' := by
  have hmm := @run_makeMap Try.prog
  have K := Maps.int_keyed (P := Try.prog) Try.underlying3
  have ht := Try.underlying64
  have o0 := World.ownsMap_made (H := Unit) w Try.prog 3 RF
  obtain ⟨w1, r1, o1, g1⟩ := o0.update K ht (by decide) (Maps.keyOf_int_mk (a := 1) Try.underlying3 (by decide)) (val := .func (.func 41) #[] #[]) rfl
  obtain ⟨w2, r2, o2, g2⟩ := o1.update K ht (by decide) (Maps.keyOf_int_mk (a := 2) Try.underlying3 (by decide)) (val := .func (.func 42) #[] #[]) rfl
  obtain ⟨w3, r3, o3, g3⟩ := o2.update K ht (by decide) (Maps.keyOf_int_mk (a := 3) Try.underlying3 (by decide)) (val := .func (.func 44) #[] #[]) rfl
  have O := Go.Lib.hid o3
  have G1 := Go.Lib.hid g1
  have G2 := Go.Lib.hid g2
  have G3 := Go.Lib.hid g3
  clear o0 o1 o2 o3 g1 g2 g3 K ht
  go_enter Try.func25, Try.ntmps25
  go_wp2
  go_ret
  refine ⟨rfl, O.out, ?_⟩
  have b0 : Below w.heap.size w (w.alloc (.map #[] 0)) := below_alloc (Below.refl _ w) _
  have hm : ∀ k, some w.heap.size = some k → w.heap.size ≤ k := fun k e => by injection e with e; omega
  exact ((b0.grown G1.out (by simp) hm).grown G2.out (by have := G1.out.size; simp at this; omega) hm).grown G3.out (by have := G1.out.size; have := G2.out.size; simp at *; omega) hm
theorem zeroF (w : World) : (zeroValue 63).run Try.prog w = .ok .nilFunc w := by kernel_rfl
theorem look_bends {w : World} {b : Nat} (h : w.ownsMap (H := Unit) Try.prog 3 RF b 3 D3) (k : Int) (hk : (Lit.int .i64 k).wf = true) : ∃ v, (Instr.lookup 64 (.map (some b)) (.int .i64 k) false).run Try.prog w = .ok v w ∧
    ((∃ f : Nat, v = .func (.func f) #[] #[] ∧ (f : Int) + 1 = (if k = 1 then (41 + 1 : Int) else if k = 2 then (42 + 1) else if k = 3 then (44 + 1) else 0)) ∨ (v = .nilFunc ∧ (if k = 1 then (41 + 1 : Int) else if k = 2 then (42 + 1) else if k = 3 then (44 + 1) else 0) = 0)) := by
  obtain ⟨v, ps, hrun, hv⟩ := h.lookup (Maps.int_keyed (P := Try.prog) Try.underlying3) Try.underlying64 (zeroF w) (zd := .lit (.int .i64 0)) (zp := []) rfl (Maps.keyOf_int_mk (a := k) Try.underlying3 hk)
  rw [at_D3] at hv
  exact ⟨v, hrun, RF_inv hv⟩

/-- The row while it is filled. -/
structure Rt (w : World) (b : Nat) (g : Nat → Int) (i : Nat) (wr : World) : Prop where
  below : Below w.heap.size w wr
  hb : w.heap.size ≤ b
  sz : b < wr.heap.size
  row : ∃ cur, wr.heap[b]? = some (.cells cur 30 (0, 0)) ∧ cur.size = 256 ∧ ∀ j, j < i → cur[j]? = some (.int .i8 (g j))
theorem Rt.cell {w wr : World} {b : Nat} {g : Nat → Int} {i : Nat} (h : Rt w b g i wr) (j : Nat) (hj : j < 256) : ∃ u, wr.cell? ⟨b, j, none⟩ = some u := by
  obtain ⟨cur, e, hs, _⟩ := h.row
  refine ⟨cur[j]'(by omega), ?_⟩
  unfold World.cell?
  rw [e]
  simp [hs, hj]
theorem Rt.frozen {w wr : World} {b : Nat} {g : Nat → Int} {i : Nat} (h : Rt w b g i wr) (j : Nat) : wr.frozen? ⟨b, j, none⟩ = false := by
  obtain ⟨cur, e, hs, _⟩ := h.row
  unfold World.frozen?
  rw [e]
  simp
theorem Rt.step {w wr w3 : World} {b : Nat} {g : Nat → Int} {i : Nat} (h : Rt w b g i wr) (hB : Below wr.heap.size wr w3) : Rt w b g i w3 := by
  obtain ⟨bl, hb, sz, cur, e, hs, hc⟩ := h
  exact ⟨bl.trans (hB.mono bl.size), hb, Nat.lt_of_lt_of_le sz hB.size, cur, (hB.block b sz).trans e, hs, hc⟩
theorem Rt.set {w wr : World} {b : Nat} {g : Nat → Int} {i : Nat} (h : Rt w b g i wr) (hi : i < 256) : Rt w b g (i + 1) (wr.setCell ⟨b, i, none⟩ (.int .i8 (g i))) := by
  obtain ⟨bl, hb, sz, cur, e, hs, hc⟩ := h
  refine ⟨⟨bl.os, bl.tape, bl.output, by simpa using bl.size, fun k hk => ?_⟩, hb, by simpa using sz, cur.setIfInBounds i (.int .i8 (g i)), ?_, by simpa using hs, fun j hj => ?_⟩
  · rw [Below.heap_setCell wr ⟨b, i, none⟩ _ k (by show k ≠ b; omega)]
    exact bl.block k hk
  · unfold World.setCell
    simp only [Array.getElem?_modify, if_true, e, Option.map_some]
    rfl
  · rw [Array.getElem?_setIfInBounds]
    by_cases c : i = j
    · subst c; rw [if_pos rfl, if_pos (by omega)]
    · rw [if_neg c]; exact hc j (by omega)
theorem none_is {k : Int} {v : Value} (h : k ≠ 1 ∧ k ≠ 2 ∧ k ≠ 3) (hv : (∃ f : Nat, v = .func (.func f) #[] #[] ∧ (f : Int) + 1 = (if k = 1 then (41 + 1 : Int) else if k = 2 then (42 + 1) else if k = 3 then (44 + 1) else 0)) ∨ (v = .nilFunc ∧ (if k = 1 then (41 + 1 : Int) else if k = 2 then (42 + 1) else if k = 3 then (44 + 1) else 0) = 0)) : v = .nilFunc := by
  rw [if_neg h.1, if_neg h.2.1, if_neg h.2.2] at hv
  rcases hv with ⟨f, _, e⟩ | ⟨e, _⟩
  · omega
  · exact e
theorem some_is {k : Int} {v : Value} {f : Nat} (h : (f : Int) + 1 = (if k = 1 then (41 + 1 : Int) else if k = 2 then (42 + 1) else if k = 3 then (44 + 1) else 0)) (hv : (∃ f : Nat, v = .func (.func f) #[] #[] ∧ (f : Int) + 1 = (if k = 1 then (41 + 1 : Int) else if k = 2 then (42 + 1) else if k = 3 then (44 + 1) else 0)) ∨ (v = .nilFunc ∧ (if k = 1 then (41 + 1 : Int) else if k = 2 then (42 + 1) else if k = 3 then (44 + 1) else 0) = 0)) : v = .func (.func f) #[] #[] := by
  rcases hv with ⟨f', e, e2⟩ | ⟨_, e⟩
  · have : f' = f := by omega
    rw [e, this]
  · omega
theorem Rt.made (w w1 : World) (g : Nat → Int) (h : Below w.heap.size w w1) : Rt w w1.heap.size g 0 (w1.alloc (.cells (madeCells #[.int .i8 0] 256) 30)) :=
  ⟨below_alloc h _, h.size, by rw [World.size_alloc]; exact Nat.lt_succ_self _, madeCells #[.int .i8 0] 256, by (show (w1.heap.push _)[_]? = _; simp), size_madeCells _ _, fun j hj => by omega⟩
theorem Rt.own {w wr : World} {b : Nat} {g : Nat → Int} (h : Rt w b g 256 wr) : wr.ownsRow w.heap.size 30 1 (.slice (some ⟨b, 0, none⟩) 256 256) 256 ((List.range 256).map fun i => .int .i8 (g i)) := by
  obtain ⟨cur, e, hs, hc⟩ := h.row
  refine ⟨by rw [List.length_map, List.length_range], .inr ⟨b, 256, cur, rfl, h.hb, e, Nat.le_refl _, by decide, hs, ?_⟩⟩
  apply List.ext_getElem?
  intro j
  rcases Nat.lt_or_ge j 256 with hj | hj
  · rw [Nat.mul_one, List.take_of_length_le (by rw [Array.length_toList, hs]; exact Nat.le_refl _), Array.getElem?_toList, hc j hj, List.getElem?_map, List.getElem?_range hj]
    rfl
  · rw [List.getElem?_eq_none (by rw [List.length_take]; omega), List.getElem?_eq_none (by rw [List.length_map, List.length_range]; exact hj)]
def i8of (i : Nat) : Int := if i < 128 then (i : Int) else (i : Int) - 256

set_option maxRecDepth 100000 in
set_option maxHeartbeats 1000000 in
theorem table_none (k : Int) (w : World) (hk : (Lit.int .i64 k).wf = true) (h : ¬ (1 ≤ k ∧ k ≤ 3)) :
    Calls Try.prog 11 #[.int .i64 k] w fun e w' => e = .returned (.tuple #[.slice none 0 0, .int .i64 121]) ∧ Below w.heap.size w w' := by
  have hn : Hid (k ≠ 1 ∧ k ≠ 2 ∧ k ≠ 3) := by refine ⟨?_, ?_, ?_⟩ <;> omega
  have eqn : ∀ w, (binOp .eql 63 .nilFunc .nilFunc).run Try.prog w = .ok (.bool true) w := fun _ => by kernel_rfl
  clear h
  go_enter Try.func11, Try.ntmps11
  go_wp2_with (go_at_call 25; refine (bends_calls _).mono ?_; rintro e w1 ⟨rfl, hown, hB⟩; obtain ⟨v, hrun, hv⟩ := look_bends hown k hk; obtain rfl : v = .nilFunc := none_is hn.out hv; have HO := Go.Lib.hid hown; have HB := Go.Lib.hid hB; clear hown hB hv)
  go_ret2
  exact ⟨rfl, HB.out⟩

set_option maxRecDepth 100000 in
set_option maxHeartbeats 1000000 in
theorem table_some (k : Int) (f : Nat) (g : Nat → Int) (w : World) (hk : (Lit.int .i64 k).wf = true) (hf : (f : Int) + 1 = (if k = 1 then (41 + 1 : Int) else if k = 2 then (42 + 1) else if k = 3 then (44 + 1) else 0))
    (eg : ∀ args w, (callFunc f args).run Try.prog w = .ok (.enter f args) w)
    (hcall : ∀ W (i : Nat), i < 256 → Calls Try.prog f #[.int .i64 (i8of i)] W fun e w' => e = .returned (.int .i8 (g i)) ∧ Below W.heap.size W w') :
    Calls Try.prog 11 #[.int .i64 k] w fun e w' => ∃ v, e = .returned (.tuple #[v, .int .i64 0]) ∧ w'.ownsRow w.heap.size 30 1 v 256 ((List.range 256).map fun i => .int .i8 (g i)) ∧ Below w.heap.size w w' := by
  have HF := Go.Lib.hid hf
  clear hf
  have eqn : ∀ w, (binOp .eql 63 (.func (.func f) #[] #[]) .nilFunc).run Try.prog w = .ok (.bool false) w := fun _ => by kernel_rfl
  have hinfo : (Try.prog.info? 30).map (fun i => (i.zero, i.size, i.bytes)) = some (some (.int .i8 0), 1, 1) := by kernel_rfl
  have mk := print_make_int (P := Try.prog) 23 30 (.int .i8 0) 1 Try.underlying23 hinfo rfl (by omega) (256 : Int) (by omega) (by decide)
  clear hinfo
  go_enter Try.func11, Try.ntmps11
  go_wp2_with (go_at_call 25; refine (bends_calls _).mono ?_; rintro e w1 ⟨rfl, hown, hB⟩; obtain ⟨v, hrun, hv⟩ := look_bends hown k hk; obtain rfl : v = .func (.func f) #[] #[] := some_is HF.out hv; have HO := Go.Lib.hid hown; have HB := Go.Lib.hid hB; clear hown hB hv)
  have S0 : Aside (Rt w w1.heap.size g 0 (w1.alloc (.cells (madeCells #[.int .i8 0] 256) 30))) := Rt.made w w1 g HB.out
  obtain ⟨b, hb⟩ : ∃ b, b = w1.heap.size := ⟨_, rfl⟩
  rw [← hb] at S0 ⊢
  generalize w1.alloc (.cells (madeCells #[.int .i8 0] 256) 30) = w2 at S0 ⊢
  clear hb mk hrun HO HB eqn HF
  go_loopg [6, 15] 256 (fun kx s6 s15 wr => ∃ i : Nat, s15 = .int .i64 i ∧ i ≤ 256 ∧ 256 - i ≤ kx ∧ Aside (Rt w b g i wr))
  case atStart => exact ⟨0, rfl, by omega, by omega, S0⟩
  case round =>
    clear S0
    obtain ⟨i, rfl, hi, hkx, S1⟩ := hrel
    by_cases hlt : i < 256
    · have hltz : (i : Int) < 256 := by omega
      have hi8 : IntKind.i8.wrap (i : Int) = i8of i := by
        unfold i8of
        have e : IntKind.i8.wrap (i : Int) = ((i : Int) + 128) % 256 - 128 := by
          simp [IntKind.wrap, IntKind.bits, IntKind.signed]
          try omega
        rw [e]
        split <;> omega
      have hb1 : -128 ≤ i8of i := by unfold i8of; split <;> omega
      have hb2 : i8of i ≤ 127 := by unfold i8of; split <;> omega
      go_wp2_with fail
      ((with_reducible refine (hcall _ i hlt).mono ?_))
      rintro e w3 ⟨rfl, hB3⟩
      obtain ⟨u, hc⟩ := (S1.out.step hB3).cell i hlt
      have hf := (S1.out.step hB3).frozen i
      have S2 : Aside (Rt w b g (i + 1) (w3.setCell ⟨b, i, none⟩ (.int .i8 (g i)))) := (S1.out.step hB3).set hlt
      clear S1 hB3
      go_wp2
      go_roundg (256 - (i + 1))
      case measure => omega
      case rel => exact ⟨i + 1, by go_num, by omega, Nat.le_refl _, S2⟩
    · obtain rfl : i = 256 := by omega
      go_wp2
      go_ret2
      exact ⟨_, rfl, S1.out.own, S1.out.below⟩
end Go.Proofs.Ytjcfhgpaipbedaa.St
