/- A pool of whole numbers: Free, Take, has, Get. -/
import Derived.Deep.MidRow
import Derived.Laws.OwnMore
import Derived.Test.YtmcmkdpidppcaaaPoolA
namespace Go.Proofs.Ytmcmkdpidppcaaa.St
open Go.Proofs Go.RowKit Go.Proofs.YtmcmkdpidppcaaaW.PrintWords Go.Proofs.YtmcmkdpidppcaaaW.PrintLast Go.Proofs.YtmcmkdpidppcaaaW.PrintMore
/-- A pool whose free places have room. -/
def Roomy (vf : Value) (n f : Nat) : Prop := ∃ g cap, vf = .slice (some ⟨g, 0, none⟩) f cap ∧ n ≤ cap
theorem own_form {w : World} {base : Nat} {e : TypeId} {size : Nat} {v : Value} {n : Nat} {xs : List Value} (h : w.ownsRow base e size v n xs) : ∃ a cap, v = .slice a n cap := by
  rcases h.2 with ⟨rfl, rfl⟩ | ⟨g, cap, _, rfl, _⟩
  · exact ⟨none, 0, rfl⟩
  · exact ⟨_, cap, rfl⟩
theorem own_some {w : World} {base : Nat} {e : TypeId} {size : Nat} {v : Value} {n : Nat} {xs : List Value} (h : w.ownsRow base e size v n xs) (hn : 0 < n) : ∃ g cap, v = .slice (some ⟨g, 0, none⟩) n cap ∧ base ≤ g ∧ g < w.heap.size := by
  rcases h.2 with ⟨_, rfl⟩ | ⟨g, cap, _, rfl, hb, hg, _⟩
  · omega
  · exact ⟨g, cap, rfl, hb, (Array.getElem?_eq_some_iff.1 hg).1⟩
theorem own_cell {w : World} {base : Nat} {e : TypeId} {size : Nat} {g n cap : Nat} {xs : List Value} (h : w.ownsRow base e size (.slice (some ⟨g, 0, none⟩) n cap) n xs) (j : Nat) (u : Value) (hu : xs[j]? = some u) : w.cell? ⟨g, j, none⟩ = some u := by
  have hc := h.cells (g := g) rfl j u hu
  rwa [show (⟨g, 0, none⟩ : Addr).add j = ⟨g, j, none⟩ from by unfold Addr.add; split <;> simp_all] at hc
theorem own_frozen {w : World} {base : Nat} {e : TypeId} {size : Nat} {g n cap : Nat} {xs : List Value} (h : w.ownsRow base e size (.slice (some ⟨g, 0, none⟩) n cap) n xs) (j : Nat) : w.frozen? ⟨g, j, none⟩ = false := by
  rcases h.2 with ⟨h', _⟩ | ⟨g', cap', cur, h', _, hh, _⟩
  · cases h'
  · injection h' with h1
    injection h1 with h1
    injection h1 with h1
    subst h1
    unfold World.frozen?
    rw [hh]
    simp
theorem own_cap {w : World} {base : Nat} {e : TypeId} {size : Nat} {g n cap : Nat} {xs : List Value} (h : w.ownsRow base e size (.slice (some ⟨g, 0, none⟩) n cap) n xs) : n ≤ cap := by
  rcases h.2 with ⟨h', _⟩ | ⟨g', cap', cur, h', _, _, hn, _⟩
  · cases h'
  · injection h' with _ _ h3
    omega
theorem own_shrink {w : World} {base : Nat} {e : TypeId} {g n cap : Nat} {xs : List Value} {u : Value} (h : w.ownsRow base e 1 (.slice (some ⟨g, 0, none⟩) (n + 1) cap) (n + 1) (xs ++ [u])) : w.ownsRow base e 1 (.slice (some ⟨g, 0, none⟩) n cap) n xs := by
  have hl : xs.length = n := by have := h.1; rw [List.length_append, List.length_singleton] at this; omega
  refine ⟨by omega, ?_⟩
  rcases h.2 with ⟨h', _⟩ | ⟨g', cap', cur, h', hb, hh, hn, hm, hs, ht⟩
  · cases h'
  · injection h' with h1 h2 h3
    injection h1 with h1
    injection h1 with h1
    subst h1
    subst h3
    refine .inr ⟨g, cap, cur, rfl, hb, hh, by omega, hm, hs, ?_⟩
    have e2 : cur.toList.take (n * 1) = (cur.toList.take ((n + 1) * 1)).take n := by rw [List.take_take]; congr 1; omega
    rw [e2, ht, ← hl, List.take_left']
    rfl
theorem slotCells_get (S : List (Bool × Int)) (i : Nat) (h : i < S.length) : (slotCells S)[i * 2]? = some (.bool (S.getD i (false, 0)).1) ∧ (slotCells S)[i * 2 + 1]? = some (.int .i64 (S.getD i (false, 0)).2) := by
  induction S generalizing i with
  | nil => simp at h
  | cons s S ih =>
    have e : slotCells (s :: S) = .bool s.1 :: .int .i64 s.2 :: slotCells S := rfl
    rw [e]
    cases i with
    | zero => exact ⟨rfl, rfl⟩
    | succ i =>
      have := ih i (by simpa using h)
      rw [show (i + 1) * 2 = i * 2 + 2 by omega]
      exact this
theorem slotCells_set (S : List (Bool × Int)) (i : Nat) (s : Bool × Int) : slotCells (S.set i s) = ((slotCells S).set (i * 2) (.bool s.1)).set (i * 2 + 1) (.int .i64 s.2) := by
  induction S generalizing i with
  | nil => rfl
  | cons t S ih =>
    cases i with
    | zero => rfl
    | succ i =>
      show (.bool t.1 :: .int .i64 t.2 :: slotCells (S.set i s)) = _
      rw [ih i, show (i + 1) * 2 = i * 2 + 2 by omega]
      rfl
section
variable {n0 : Nat} {w : World} {b : Nat} {vs vf : Value} {S : List (Bool × Int)} {F : List Int}
theorem PoolAt.slot (h : PoolAt n0 w b vs vf S F) (i : Nat) (hi : i < S.length) : ∃ g cap, vs = .slice (some ⟨g, 0, none⟩) S.length cap ∧ n0 ≤ g ∧ w.cell? ⟨g, i * 2, none⟩ = some (.bool (S.getD i (false, 0)).1) ∧ w.cell? ⟨g, i * 2 + 1, none⟩ = some (.int .i64 (S.getD i (false, 0)).2) ∧ w.there g (i * 2) 2 := by
  obtain ⟨g, cap, rfl, hb, _⟩ := own_some h.slots (by omega)
  obtain ⟨c0, c1⟩ := slotCells_get S i hi
  have k0 := own_cell h.slots _ _ c0
  have k1 := own_cell h.slots _ _ c1
  refine ⟨g, cap, rfl, hb, k0, k1, fun j hj => ⟨?_, own_frozen h.slots _⟩⟩
  match j, hj with
  | 0, _ => rw [Nat.add_zero, k0]; rfl
  | 1, _ => rw [k1]; rfl
theorem PoolAt.setSlot {g cap : Nat} (h : PoolAt n0 w b (.slice (some ⟨g, 0, none⟩) S.length cap) vf S F) (i : Nat) (s : Bool × Int) : PoolAt n0 (w.setCells g (i * 2) [.bool s.1, .int .i64 s.2]) b (.slice (some ⟨g, 0, none⟩) S.length cap) vf (S.set i s) F := by
  obtain ⟨h1, g1⟩ := h.slots.stored (i * 2) (.bool s.1)
  obtain ⟨h2, g2⟩ := h1.stored (i * 2 + 1) (.int .i64 s.2)
  have hgb : g ≠ b := fun e => h.d1 (by show some g = some b; exact congrArg some e)
  have e : w.setCells g (i * 2) [.bool s.1, .int .i64 s.2] = (w.setCell ⟨g, i * 2, none⟩ (.bool s.1)).setCell ⟨g, i * 2 + 1, none⟩ (.int .i64 s.2) := rfl
  rw [e]
  refine ⟨h.hb, ?_, ?_, set_other (set_other h.free g _ _ (h.d3 g rfl)) g _ _ (h.d3 g rfl), h.d1, h.d2, h.d3⟩
  · rw [Below.heap_setCell _ ⟨g, i * 2 + 1, none⟩ _ b (Ne.symm hgb), Below.heap_setCell _ ⟨g, i * 2, none⟩ _ b (Ne.symm hgb)]
    exact h.blk
  · rw [List.length_set, slotCells_set]
    exact h2
end
theorem eqp (a : Addr) (w : World) : (binOp .eql 45 (.pointer (some a)) (.pointer none)).run Try.prog w = .ok (.bool false) w := by kernel_rfl
theorem nep (a : Addr) (w : World) : (binOp .neq 45 (.pointer (some a)) (.pointer none)).run Try.prog w = .ok (.bool true) w := by kernel_rfl
set_option maxRecDepth 100000 in
theorem free_calls {n0 : Nat} {w : World} {b : Nat} {vs vf : Value} {S : List (Bool × Int)} {F : List Int} (h : PoolAt n0 w b vs vf S F) : Calls Try.prog 21 #[.pointer (some ⟨b, 0, none⟩)] w fun e w' => e = .returned (.int .i64 (F.length : Int)) ∧ w' = w := by
  obtain ⟨a, cap, rfl⟩ := own_form h.free
  have hc := h.cell1
  have eq := eqp ⟨b, 0, none⟩
  clear h
  go_enter Try.func21, Try.ntmps21
  go_wp2
  go_ret
  exact ⟨rfl, rfl⟩
set_option maxRecDepth 100000 in
set_option maxHeartbeats 1000000 in
theorem take_calls {n0 : Nat} {w : World} {b : Nat} {vs vf : Value} {S : List (Bool × Int)} {F : List Int} {i : Nat} (h : PoolAt n0 w b vs vf S (F ++ [(i : Int)])) (hi : i < S.length) (hF : F.length < 65536) (v : Int) : Calls Try.prog 18 #[.pointer (some ⟨b, 0, none⟩), .int .i64 v] w fun e w' => ∃ vf', e = .returned (.tuple #[.int .i64 (i : Int), .int .i64 0]) ∧ PoolAt n0 w' b vs vf' (S.set i (true, v)) F ∧ Below n0 w w' ∧ (Roomy vf S.length (F.length + 1) → Roomy vf' S.length F.length) ∧ Kept w w' (Foot b vs vf) ∧ vf'.ownBlock = vf.ownBlock := by
  have hfree := free_calls h
  have hlen : (F ++ [(i : Int)]).length = F.length + 1 := by rw [List.length_append, List.length_singleton]
  have hown := h.free
  rw [hlen, List.map_append] at hown
  obtain ⟨g, cap, rfl, hbg, _⟩ := own_some hown (by omega)
  obtain ⟨gs, caps, rfl, hbs, k0, k1, hth⟩ := h.slot i hi
  have hcF : w.cell? ⟨g, F.length, none⟩ = some (.int .i64 (i : Int)) := own_cell hown _ _ (by rw [List.getElem?_append_right (by simp)]; simp)
  have h2 : PoolAt n0 (w.setCell ⟨b, 1, none⟩ (.slice (some ⟨g, 0, none⟩) F.length cap)) b (.slice (some ⟨gs, 0, none⟩) S.length caps) (.slice (some ⟨g, 0, none⟩) F.length cap) S F := h.setFree ⟨rfl, rfl, rfl, Nat.le_refl _, fun _ _ _ => rfl⟩ (own_shrink hown) (.inl rfl)
  have h3 := Aside0.mk (h2.setSlot i (true, v))
  have c0 := h.cell0
  have c1 := h.cell1
  have f1 := h.frozen 1
  have fs0 := own_frozen h.slots (i * 2)
  have fs1 := own_frozen h.slots (i * 2 + 1)
  have q0 := (slotCells_get S i hi).1
  have q1 := (slotCells_get S i hi).2
  have kA := own_cell h2.slots _ _ q0
  have kB := own_cell (h2.slots.stored (i * 2) (.bool true)).1 (i * 2 + 1) _ (by rw [List.getElem?_set_ne (by omega)]; exact q1)
  clear q0 q1
  have d0 := h2.cell0
  have hB : Aside0 (Below n0 w ((w.setCell ⟨b, 1, none⟩ (.slice (some ⟨g, 0, none⟩) F.length cap)).setCells gs (i * 2) [.bool true, .int .i64 v])) := ⟨(((Below.refl n0 w).setCell (p := ⟨b, 1, none⟩) h.hb _).setCell (p := ⟨gs, i * 2, none⟩) hbs _).setCell (p := ⟨gs, i * 2 + 1, none⟩) hbs _⟩
  have hK : Aside0 (Kept w ((w.setCell ⟨b, 1, none⟩ (.slice (some ⟨g, 0, none⟩) F.length cap)).setCells gs (i * 2) [.bool true, .int .i64 v]) (Foot b (.slice (some ⟨gs, 0, none⟩) S.length caps) (.slice (some ⟨g, 0, none⟩) (F.length + 1) cap))) := ⟨(((Kept.refl w _).setCell (p := ⟨b, 1, none⟩) (.inl (.inl rfl)) _).setCell (p := ⟨gs, i * 2, none⟩) (.inl (.inr (.inl rfl))) _).setCell (p := ⟨gs, i * 2 + 1, none⟩) (.inl (.inr (.inl rfl))) _⟩
  have hcap : F.length ≤ cap := by have := own_cap hown; omega
  have z1 : (((F.length + 1 : Nat) : Int) == 0) = false := beq_eq_false_iff_ne.2 (by omega)
  have z2 : wrap64 (((F.length + 1 : Nat) : Int) - 1) = (F.length : Int) := by unfold wrap64; omega
  rw [hlen] at hfree
  clear h h2 hown
  go_enter Try.func18, Try.ntmps18
  go_wp2_with (go_at_call 21; refine hfree.mono ?_; rintro e w' ⟨rfl, rfl⟩)
  go_ret2
  exact ⟨_, rfl, h3.out, hB.out, fun ⟨g', cap', e, hc⟩ => ⟨g, cap, rfl, by injection e with _ _ e3; omega⟩, hK.out, rfl⟩
set_option maxRecDepth 100000 in
theorem has_calls {n0 : Nat} {w : World} {b : Nat} {vs vf : Value} {S : List (Bool × Int)} {F : List Int} (h : PoolAt n0 w b vs vf S F) (i : Nat) (hi : i < S.length) : Calls Try.prog 34 #[.pointer (some ⟨b, 0, none⟩), .int .i64 (i : Int)] w fun e w' => e = .returned (.bool (S.getD i (false, 0)).1) ∧ w' = w := by
  obtain ⟨gs, caps, rfl, hbs, k0, k1, hth⟩ := h.slot i hi
  have c0 := h.cell0
  have ne := nep ⟨b, 0, none⟩
  have z1 : decide (0 ≤ (i : Int)) = true := decide_eq_true (by omega)
  have z2 : decide ((i : Int) < (S.length : Int)) = true := decide_eq_true (by omega)
  clear h
  obtain ⟨t, ht⟩ : ∃ t, t = (S.getD i (false, 0)).1 := ⟨_, rfl⟩
  rw [← ht] at k0 ⊢
  clear ht k1 hth
  go_enter Try.func34, Try.ntmps34
  go_wp2
  go_ret
  exact ⟨rfl, rfl⟩
set_option maxRecDepth 100000 in
theorem get_calls {n0 : Nat} {w : World} {b : Nat} {vs vf : Value} {S : List (Bool × Int)} {F : List Int} (h : PoolAt n0 w b vs vf S F) (i : Nat) (hi : i < S.length) (ht : (S.getD i (false, 0)).1 = true) : Calls Try.prog 28 #[.pointer (some ⟨b, 0, none⟩), .int .i64 (i : Int)] w fun e w' => e = .returned (.tuple #[.int .i64 (S.getD i (false, 0)).2, .bool true]) ∧ w' = w := by
  have hh := has_calls h i hi
  rw [ht] at hh
  obtain ⟨gs, caps, rfl, hbs, k0, k1, hth⟩ := h.slot i hi
  have c0 := h.cell0
  have z2 : (i : Int) < (S.length : Int) := by omega
  obtain ⟨x, hx⟩ : ∃ x, x = (S.getD i (false, 0)).2 := ⟨_, rfl⟩
  rw [← hx] at k1 ⊢
  clear h hth hx ht k0
  go_enter Try.func28, Try.ntmps28
  go_wp2_with (go_at_call 34; refine hh.mono ?_; rintro e w' ⟨rfl, rfl⟩)
  go_ret2
  exact ⟨rfl, rfl⟩
end Go.Proofs.Ytmcmkdpidppcaaa.St
