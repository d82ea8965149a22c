/- A pool of whole numbers at any place: has, Get, Set, Used, Take. -/
import Derived.Test.YtmcmkdpidppcaaaPoolC
namespace Go.Proofs.Ytmcmkdpidppcaaa.St
open Go.Proofs Go.RowKit Go.Proofs.YtmcmkdpidppcaaaW.PrintWords Go.Proofs.YtmcmkdpidppcaaaW.PrintLast Go.Proofs.YtmcmkdpidppcaaaW.PrintMore
/-- Is the place taken? -/
def hasL (S : List (Bool × Int)) (i : Int) : Bool := decide (0 ≤ i) && (decide (i < (S.length : Int)) && (S.getD i.toNat (false, 0)).1)
section
variable {n0 : Nat} {w : World} {b : Nat} {vs vf : Value} {S : List (Bool × Int)} {F : List Int}
set_option maxRecDepth 100000 in
theorem has_any (h : PoolAt n0 w b vs vf S F) (i : Int) : Calls Try.prog 34 #[.pointer (some ⟨b, 0, none⟩), .int .i64 i] w fun e w' => e = .returned (.bool (hasL S i)) ∧ w' = w := by
  by_cases c0 : 0 ≤ i
  · by_cases c1 : i < (S.length : Int)
    · obtain ⟨k, rfl⟩ : ∃ k : Nat, i = (k : Int) := ⟨i.toNat, by omega⟩
      have e : hasL S (k : Int) = (S.getD k (false, 0)).1 := by unfold hasL; rw [decide_eq_true c0, decide_eq_true c1, Bool.true_and, Bool.true_and, Int.toNat_natCast]
      rw [e]
      exact has_calls h k (by omega)
    · have e : hasL S i = false := by unfold hasL; rw [decide_eq_false c1]; simp
      rw [e]
      obtain ⟨a, cap, rfl⟩ := own_form h.slots
      have k0 := h.cell0
      have ne := nep ⟨b, 0, none⟩
      have z1 : decide (0 ≤ i) = true := decide_eq_true c0
      have z2 : decide (i < (S.length : Int)) = false := decide_eq_false c1
      clear h e
      go_enter Try.func34, Try.ntmps34
      go_wp2
      go_ret
      exact ⟨rfl, rfl⟩
  · have e : hasL S i = false := by unfold hasL; rw [decide_eq_false c0]; simp
    rw [e]
    have ne := nep ⟨b, 0, none⟩
    have z1 : decide (0 ≤ i) = false := decide_eq_false c0
    clear h e
    go_enter Try.func34, Try.ntmps34
    go_wp2
    go_ret
    exact ⟨rfl, rfl⟩
theorem hasL_in {i : Int} (h : hasL S i = true) : 0 ≤ i ∧ i < (S.length : Int) ∧ (S.getD i.toNat (false, 0)).1 = true := by
  unfold hasL at h
  simp only [Bool.and_eq_true, decide_eq_true_eq] at h
  exact ⟨h.1, h.2.1, h.2.2⟩
set_option maxRecDepth 100000 in
theorem get_any (h : PoolAt n0 w b vs vf S F) (i : Int) : Calls Try.prog 28 #[.pointer (some ⟨b, 0, none⟩), .int .i64 i] w fun e w' => e = .returned (.tuple #[.int .i64 (if hasL S i then (S.getD i.toNat (false, 0)).2 else 0), .bool (hasL S i)]) ∧ w' = w := by
  by_cases c : hasL S i = true
  · obtain ⟨h0, h1, h2⟩ := hasL_in c
    obtain ⟨k, rfl⟩ : ∃ k : Nat, i = (k : Int) := ⟨i.toNat, by omega⟩
    rw [Int.toNat_natCast] at h2 ⊢
    rw [if_pos c, c]
    exact get_calls h k (by omega) h2
  · have c' : hasL S i = false := by simpa using c
    rw [if_neg c, c']
    have hh := has_any h i
    rw [c'] at hh
    clear h c c'
    go_enter Try.func28, Try.ntmps28
    go_wp2_with (go_at_call 34; refine hh.mono ?_; rintro e w' ⟨rfl, rfl⟩)
    go_ret2
    exact ⟨rfl, rfl⟩
set_option maxRecDepth 100000 in
theorem set_no (h : PoolAt n0 w b vs vf S F) (i v : Int) (c : hasL S i = false) : Calls Try.prog 27 #[.pointer (some ⟨b, 0, none⟩), .int .i64 i, .int .i64 v] w fun e w' => e = .returned (.int .i64 51) ∧ w' = w := by
  have hh := has_any h i
  rw [c] at hh
  clear h c
  go_enter Try.func27, Try.ntmps27
  go_wp2_with (go_at_call 34; refine hh.mono ?_; rintro e w' ⟨rfl, rfl⟩)
  go_ret
  exact ⟨rfl, rfl⟩
set_option maxRecDepth 100000 in
theorem set_yes (h : PoolAt n0 w b vs vf S F) (k : Nat) (v : Int) (hk : k < S.length) (ht : (S.getD k (false, 0)).1 = true) : Calls Try.prog 27 #[.pointer (some ⟨b, 0, none⟩), .int .i64 (k : Int), .int .i64 v] w fun e w' => e = .returned (.int .i64 0) ∧ PoolAt n0 w' b vs vf (S.set k (true, v)) F ∧ Below n0 w w' ∧ Kept w w' (Foot b vs vf) := by
  have hh := has_calls h k hk
  rw [ht] at hh
  obtain ⟨gs, caps, rfl, hbs, k0, k1, hth⟩ := h.slot k hk
  have c0 := h.cell0
  have f1 := own_frozen h.slots (k * 2 + 1)
  have z2 : (k : Int) < (S.length : Int) := by omega
  have hn : Aside0 (PoolAt n0 (w.setCell ⟨gs, k * 2 + 1, none⟩ (.int .i64 v)) b (.slice (some ⟨gs, 0, none⟩) S.length caps) vf (S.set k (true, v)) F ∧ Below n0 w (w.setCell ⟨gs, k * 2 + 1, none⟩ (.int .i64 v))) := by
    refine ⟨?_, (Below.refl n0 w).setCell (p := ⟨gs, k * 2 + 1, none⟩) hbs _⟩
    obtain ⟨h2, _⟩ := h.slots.stored (k * 2 + 1) (.int .i64 v)
    have hgb : gs ≠ b := fun e => h.d1 (by show some gs = some b; exact congrArg some e)
    refine ⟨h.hb, ?_, ?_, set_other h.free gs _ _ (h.d3 gs rfl), h.d1, h.d2, h.d3⟩
    · rw [Below.heap_setCell _ ⟨gs, k * 2 + 1, none⟩ _ b (Ne.symm hgb)]
      exact h.blk
    · rw [List.length_set, slotCells_set]
      have e : (slotCells S).set (k * 2) (.bool (true, v).1) = slotCells S := by
        have hq := (slotCells_get S k hk).1
        rw [ht] at hq
        obtain ⟨hl, hv⟩ := List.getElem?_eq_some_iff.1 hq
        show (slotCells S).set (k * 2) (.bool true) = _
        rw [← hv, List.set_getElem_self]
      rw [e]
      exact h2
  have hK : Aside0 (Kept w (w.setCell ⟨gs, k * 2 + 1, none⟩ (.int .i64 v)) (Foot b (.slice (some ⟨gs, 0, none⟩) S.length caps) vf)) := ⟨(Kept.refl w _).setCell (p := ⟨gs, k * 2 + 1, none⟩) (.inl (.inr (.inl rfl))) _⟩
  clear h hth
  go_enter Try.func27, Try.ntmps27
  go_wp2_with (go_at_call 34; refine hh.mono ?_; rintro e w' ⟨rfl, rfl⟩)
  go_ret
  exact ⟨rfl, hn.out.1, hn.out.2, hK.out⟩
set_option maxRecDepth 100000 in
theorem used_any (h : PoolAt n0 w b vs vf S F) (hS : S.length ≤ 65536) (hF : F.length ≤ 65536) : Calls Try.prog 20 #[.pointer (some ⟨b, 0, none⟩)] w fun e w' => e = .returned (.int .i64 ((S.length : Int) - (F.length : Int))) ∧ ∃ k, w' = w.drewN k := by
  obtain ⟨a, cap, rfl⟩ := own_form h.free
  obtain ⟨a', cap', rfl⟩ := own_form h.slots
  have k0 := h.cell0
  have k1 := h.cell1
  have eq := eqp ⟨b, 0, none⟩
  have z : wrap64 ((S.length : Int) - (F.length : Int)) = (S.length : Int) - (F.length : Int) := by unfold wrap64; omega
  clear h
  go_enter Try.func20, Try.ntmps20
  go_wp2_with fail
  go_region_held_law (fun w' => w'.cell? ⟨b, 0, none⟩ = some (.slice a' S.length cap') ∧ w'.cell? ⟨b, 1, none⟩ = some (.slice a F.length cap)) (go_keep) (fail)
  go_wp2
  go_ret
  refine ⟨?_, 1, rfl⟩
  show Ending.returned (.int .i64 (IntKind.i64.wrap ((S.length : Int) - (F.length : Int)))) = _
  rw [i64_w, z]
set_option maxRecDepth 100000 in
/-- New with places out of range. -/
theorem new_no (n : Int) (hn : n < 1 ∨ 65536 < n) (w : World) : Calls Try.prog 29 #[.int .i64 n] w fun e w' => e = .returned (.tuple #[.pointer none, .int .i64 1]) ∧ w' = w := by
  by_cases c : n < 1
  · have h1 : decide (n < 1) = true := decide_eq_true c
    clear hn c
    go_enter Try.func29, Try.ntmps29
    go_wp2
    go_ret2
    exact ⟨rfl, rfl⟩
  · have h1 : decide (n < 1) = false := decide_eq_false c
    have h2 : decide (65536 < n) = true := decide_eq_true (by omega)
    clear hn c
    go_enter Try.func29, Try.ntmps29
    go_wp2
    go_ret2
    exact ⟨rfl, rfl⟩
set_option maxRecDepth 100000 in
/-- Take of a pool that is full. -/
theorem take_none (h : PoolAt n0 w b vs vf S []) (v : Int) : Calls Try.prog 18 #[.pointer (some ⟨b, 0, none⟩), .int .i64 v] w fun e w' => e = .returned (.tuple #[.int .i64 (-1), .int .i64 50]) ∧ w' = w := by
  have hf := free_calls h
  clear h
  go_enter Try.func18, Try.ntmps18
  go_wp2_with (go_at_call 21; refine hf.mono ?_; rintro e w' ⟨rfl, rfl⟩)
  go_ret2
  exact ⟨rfl, rfl⟩
end
end Go.Proofs.Ytmcmkdpidppcaaa.St
