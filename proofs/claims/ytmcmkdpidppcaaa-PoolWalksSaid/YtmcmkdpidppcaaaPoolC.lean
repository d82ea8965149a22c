/- A pool of whole numbers: All; awake. -/
import Derived.Shelf.RegionOpenPlain
import Derived.Lib.Walk
import Derived.Lib.SliceRun
import Derived.Maps.AppendAt
import Derived.Test.YtmcmkdpidppcaaaPoolB
namespace Go.Proofs.Ytmcmkdpidppcaaa.St
open Go.Proofs Go.RowKit Go.Proofs.YtmcmkdpidppcaaaW.PrintWords Go.Proofs.YtmcmkdpidppcaaaW.PrintLast Go.Proofs.YtmcmkdpidppcaaaW.PrintMore
theorem Try.infoS : (Try.prog.info? 89).map (fun i => (i.zero, i.size, i.bytes)) = some (some (.agg #[.bool false, .int .i64 0]), 2, 16) := by kernel_rfl
set_option maxHeartbeats 2000000 in
set_option maxRecDepth 100000 in
/-- slices.Clone at the places. -/
theorem clone_slots {n0 : Nat} {w : World} {g cap : Nat} {S : List (Bool × Int)} (h : w.ownsRow n0 89 2 (.slice (some ⟨g, 0, none⟩) S.length cap) S.length (slotCells S)) (hS : 0 < S.length) (hS2 : S.length ≤ 65536) :
    Calls Try.prog 42 #[.slice (some ⟨g, 0, none⟩) S.length cap] w fun e w' => ∃ v, e = .returned v ∧ w'.ownsRow w.heap.size 89 2 v S.length (slotCells S) ∧ Below w.heap.size w w' := by
  obtain ⟨i0, hi, hz0, hz1, hz2⟩ := info_parts Try.infoS
  have q22 : ∀ (w : World) (a : Option Addr) (n c n' c' : Nat), (binOp .eql 85 (.slice a n c) (.slice none n' c')).run Try.prog w = .ok (.bool a.isNone) w := fun w a n c n' c' => Lib.run_eql_slice_nil w _ _ a n c n' c' Try.underlying85
  have G : Aside (∀ (j : Nat) (u : Value), (slotCells S)[j]? = some u → w.cell? ⟨g, j, none⟩ = some u) := fun j u hu => own_cell h j u hu
  have HS := Go.Lib.hid hS
  have HS2 := Go.Lib.hid hS2
  clear h hS hS2
  go_enter Try.func42, Try.ntmps42
  go_wp2_with (at_builtin; refine wpList_append_own _ rfl _ _ 85 rfl w.heap.size 89 i0 (.agg #[.bool false, .int .i64 0]) 2 16 Try.underlying85 hi hz0 hz1 hz2 rfl (by decide) _ _ _ rfl (World.ownsRow_made w #[] 0 (Nat.le_refl _) (Nat.zero_le _) rfl) ⟨g, 0, none⟩ S.length cap (slotCells S) rfl ?qc1 ?qc2 ?qc3 ?qc4 ?qc5 ?qc6 ?_)
  case qc1 => exact slotCells_len S
  case qc2 =>
    intro j u hj
    have e : (⟨g, 0, none⟩ : Addr).add j = ⟨g, j, none⟩ := by unfold Addr.add; split <;> simp_all
    rw [e]
    exact Lib.cell?_alloc_some _ (G.out j u hj)
  case qc3 =>
    intro u hu
    obtain ⟨s, _, hs⟩ := List.mem_flatMap.1 hu
    simp at hs
    rcases hs with rfl | rfl <;> rfl
  case qc4 => have := HS2.out; unfold maxLen; omega
  case qc5 => have := HS2.out; omega
  case qc6 => simp
  intro v' w1 hown hgrow hnil
  go_wp2
  go_ret
  refine ⟨v', rfl, ?_, ?_⟩
  · simpa using hown
  · exact ((Below.refl _ w).alloc (Nat.le_refl _) _).grown hgrow (by simp) (by intro k hk; simp [Value.ownBlock] at hk; omega)
set_option maxHeartbeats 1000000 in
set_option maxRecDepth 100000 in
/-- All of a pool that has places: what it had then. -/
theorem all_calls {n0 : Nat} {w : World} {b : Nat} {vs vf : Value} {S : List (Bool × Int)} {F : List Int} (h : PoolAt n0 w b vs vf S F) (hS : 0 < S.length) (hS2 : S.length ≤ 65536) :
    Calls Try.prog 25 #[.pointer (some ⟨b, 0, none⟩)] w fun e w' => ∃ g v, e = .returned (.func (.func 43) #[] #[.pointer (some ⟨g, 0, none⟩)]) ∧ g = w.heap.size ∧ w'.heap[g]? = some (.cells #[v] 85 (0, 0)) ∧ w'.ownsRow (w.heap.size + 1) 89 2 v S.length (slotCells S) ∧ Below w.heap.size w w' := by
  obtain ⟨gs, cap, rfl, hb, _⟩ := own_some h.slots hS
  have hc0 : (w.alloc (.cells #[.slice none 0 0] 85)).cell? ⟨b, 0, none⟩ = some (.slice (some ⟨gs, 0, none⟩) S.length cap) := Lib.cell?_alloc_some _ h.cell0
  have hcl := clone_slots (h.slots.alloc (.cells #[.slice none 0 0] 85)) hS hS2
  have ne := nep ⟨b, 0, none⟩
  have HS := Go.Lib.hid hS
  have HS2 := Go.Lib.hid hS2
  clear h hS hS2
  go_enter Try.func25, Try.ntmps25
  go_wp2_with (go_at_call 42; refine hcl.mono ?_; rintro e w' ⟨v, rfl, hown, hbel⟩; obtain ⟨av, cv, rfl⟩ := own_form hown; have hbk : w'.heap[w.heap.size]? = some (.cells #[.slice none 0 0] 85 (0, 0)) := (hbel.block w.heap.size (by simp)).trans (heap_alloc_new w _); have hcb : w'.cell? ⟨w.heap.size, 0, none⟩ = some (.slice none 0 0) := (by rw [cell_of_row w' _ 0 _ _ (0, 0) hbk]; rfl); have hfb : w'.frozen? ⟨w.heap.size, 0, none⟩ = false := (by unfold World.frozen?; rw [hbk]; simp))
  go_ret
  have hsz : (w.alloc (.cells #[.slice none 0 0] 85)).heap.size = w.heap.size + 1 := World.size_alloc _ _
  rw [hsz] at hown hbel
  refine ⟨w.heap.size, .slice av S.length cv, rfl, rfl, ?_, ?_, ?_⟩
  · unfold World.setCell
    simp only [Array.getElem?_modify, if_true, hbk, Option.map_some]
    rfl
  · refine set_other hown w.heap.size 0 _ ?_
    intro e
    have := (hown.lt w.heap.size e).1
    omega
  · exact ((below_alloc (Below.refl _ w) _).trans (hbel.mono (by omega))).setCell (p := ⟨w.heap.size, 0, none⟩) (Nat.le_refl _) _
theorem nef (caps : Array Value) (w : World) : (binOp .neq 63 (.func (.func 43) #[] caps) .nilFunc).run Try.prog w = .ok (.bool true) w := by kernel_rfl
theorem eqf (caps : Array Value) (w : World) : (binOp .eql 63 (.func (.func 43) #[] caps) .nilFunc).run Try.prog w = .ok (.bool false) w := by kernel_rfl
set_option maxHeartbeats 2000000 in
set_option maxRecDepth 100000 in
theorem awake_calls (w : World) : Calls Try.prog 12 #[] w fun e w' => e = .returned (.bool true) ∧ Below w.heap.size w w' := by
  have hnew : Calls Try.prog 29 #[.int .i64 2] w fun e w' => ∃ b vs vf, e = .returned (.tuple #[.pointer (some ⟨b, 0, none⟩), .int .i64 0]) ∧ PoolAt w.heap.size w' b vs vf [(false, 0), (false, 0)] ([1] ++ [((0 : Nat) : Int)]) ∧ Below w.heap.size w w' := new_calls 2 (by omega) w
  go_enter Try.func12, Try.ntmps12
  go_wp2_with (first
    | (go_at_call 29; refine hnew.mono ?_; rintro e w1 ⟨b, vs, vf, rfl, hP, hB⟩; have HP := Aside0.mk hP; have HB := Aside0.mk hB; clear hP hB hnew; have eqq := eqp ⟨b, 0, none⟩)
    | (go_at_call 18; refine (take_calls (i := 0) HP.out (by decide) (by decide) 7).mono ?_; rintro e w2 ⟨vf2, rfl, hP, hB, _⟩; have HP2 := Aside0.mk hP; have HB2 := Aside0.mk (HB.out.trans hB); clear hP hB HB HP)
    | (go_at_call 28; refine (get_calls HP2.out 0 (by decide) rfl).mono ?_; rintro e w' ⟨rfl, rfl⟩)
    | (go_at_call 21; refine (free_calls HP2.out).mono ?_; rintro e w' ⟨rfl, rfl⟩)
    | (go_at_call 25; refine (all_calls HP2.out (by decide) (by decide)).mono ?_; rintro e w3 ⟨g, v, rfl, rfl, _, _, hB⟩; have HB3 := Aside0.mk (HB2.out.trans (hB.mono HB2.out.size)); have hne := nef #[.pointer (some ⟨w'.heap.size, 0, none⟩)]; clear hB))
  go_ret
  exact ⟨rfl, HB3.out⟩
end Go.Proofs.Ytmcmkdpidppcaaa.St
