/- PoolNil: the law's walk. -/
import Derived.RangeFuncBox
import Derived.RangeFuncNested
import Derived.RangeFuncBound
import Derived.RangeFuncCalls
import Derived.RangeFuncLeaves
import Derived.Shelf.Abstract
import Derived.Shelf.RegionOpen
import Derived.WalkKit
import Derived.OwnWalkIn
import Derived.TacticsInMore
import Derived.LoopNIn
import Derived.LoopIn
import Derived.Test.YtmcmkdpidppcaaaPoolNil1
import Derived.Test.YtmcmkdpidppcaaaPoolC
namespace Go.Proofs.Ytmcmkdpidppcaaa.St
open Go.Proofs Go.RowKit Go.Shelf Go.Proofs.YtmcmkdpidppcaaaW.PrintWords
attribute [local go_sem] Oper.semAt_some
set_option maxRecDepth 100000 in
set_option maxHeartbeats 2000000 in
/-- The iterator of a nil pool: no rounds. -/
theorem all1_nil (l Bs : Nat) (J : List (Int × Int) → World → Prop) (W : World) (hBs : W.cell? ⟨Bs, 0, none⟩ = some (.slice none 0 0)) (h0 : J [] W) :
    CallsIn Fence.wide 2 Try.prog 43 #[.func (.yield l) #[] #[], .pointer (some ⟨Bs, 0, none⟩)] W fun e W' => (∃ v, e = .returned v) ∧ J [] W' := by
  refine callsIn_of_wp Try.func43 rfl trivial ?_ rfl
  simp only [Try.ntmps43, List.size_toArray, List.length_cons, List.length_nil, Nat.reduceAdd, Nat.reduceSub, Array.replicate_succ, Array.replicate_zero, List.push_toArray, List.append_toArray, List.nil_append, List.cons_append]
  gi_wp2
  gi_loopw [7] (fun v wr => v = .int .i64 0 ∧ J [] wr) (fun _ _ => 0)
  case atStart => exact ⟨rfl, h0⟩
  case round =>
    obtain ⟨rfl, hJs⟩ := hrel
    gi_wp2
    go_end0
    exact ⟨⟨_, rfl⟩, hJs⟩
theorem nil_stops (Bs n0 : Nat) (w : World) (hbs : Bs < w.heap.size) (hB : Boxed w Bs 85 (.slice none 0 0)) : SeqStopsK Fence.wide 2 Try.prog 43 #[.pointer (some ⟨Bs, 0, none⟩)] (fun x : Int × Int => #[Value.int .i64 x.1, Value.int .i64 x.2]) (Below n0) (fun ys => ys = []) (fun _ => True) 0 w := fun l J Jx W hW hJ hJx hY h0 => by
  have hb : Boxed W Bs 85 (.slice none 0 0) := (hW.block Bs hbs).trans hB
  exact (all1_nil l Bs J W hb.cell h0).mono fun e W' ⟨he, hj⟩ => ⟨he, .inl ⟨_, rfl, hj⟩⟩
set_option maxRecDepth 100000 in
set_option maxHeartbeats 4000000 in
theorem poolNil_in (place v : Int) (w : World) : CallsIn Fence.wide 3 Try.prog 8 #[.int .i64 place, .int .i64 v] w fun e W' => e = .returned (.bool true) ∧ Below w.heap.size w W' := by
  have HAW := Aside0.mk (awake_calls ((w.alloc (.cells #[.bool false] 4)).alloc (.cells #[.slice none 0 0] 85)))
  have heq := eqf #[.pointer (some ⟨w.heap.size + 1, 0, none⟩)]
  refine callsIn_of_wp_marks Try.func8 rfl trivial ?_ rfl
  simp only [Try.ntmps8, List.size_toArray, List.length_cons, List.length_nil, Nat.reduceAdd, Nat.reduceSub, Array.replicate_succ, Array.replicate_zero, List.push_toArray, List.append_toArray, List.nil_append, List.cons_append]
  gi_wp2_with (first
    | (refine ⟨trivial, ?_⟩; gi_at_call 18; refine (callsIn_wide.2 (take_nil v _)).mono ?_; rintro e w' ⟨rfl, rfl⟩)
    | (refine ⟨trivial, ?_⟩; gi_at_call 19; refine (callsIn_wide.2 (give_nil place _)).mono ?_; rintro e w' ⟨rfl, rfl⟩)
    | (refine ⟨trivial, ?_⟩; gi_at_call 28; refine (callsIn_wide.2 (get_nil place _)).mono ?_; rintro e w' ⟨rfl, rfl⟩)
    | (refine ⟨trivial, ?_⟩; gi_at_call 25; refine (callsIn_wide.2 (all_nil _)).mono ?_; rintro e w' ⟨rfl, rfl⟩)
    | (refine ⟨trivial, ?_⟩; gi_at_call 12; refine (callsIn_wide.2 HAW.out).mono ?_; rintro e w3 ⟨rfl, hbw⟩))
  have hs1 : (w.alloc (.cells #[.bool false] 4)).heap.size = w.heap.size + 1 := World.size_alloc _ _
  have hs2 : ((w.alloc (.cells #[.bool false] 4)).alloc (.cells #[.slice none 0 0] 85)).heap.size = w.heap.size + 2 := by rw [World.size_alloc, hs1]
  rw [hs2] at hbw
  have bR : Boxed w3 w.heap.size 4 (.bool false) := (hbw.block w.heap.size (by omega)).trans ((Boxed.new w 4 (.bool false)).alloc _)
  have bN : Boxed w3 (w.heap.size + 1) 85 (.slice none 0 0) := by
    have h := Boxed.new (w.alloc (.cells #[.bool false] 4)) 85 (.slice none 0 0)
    rw [hs1] at h
    exact (hbw.block (w.heap.size + 1) (by omega)).trans h
  have hB : Below w.heap.size w w3 := (below_alloc (below_alloc (Below.refl _ w) _) _).trans (hbw.mono (by omega))
  have hlt3 : w.heap.size + 2 ≤ w3.heap.size := by have := hbw.size; omega
  clear hs1 hs2 hbw HAW
  refine wpIn_rangeFunc_ownG rfl (by omega) (gf := 43) (lb := #[.pointer (some ⟨w.heap.size + 1, 0, none⟩)]) rfl trivial (enters_of Try.func43 (by kernel_rfl) rfl)
    (nil_stops (w.heap.size + 1) w.heap.size w3 (by omega) bN) belowK_t (belowK_b (by omega)) (Below.refl _ _) (fun _ => rfl)
    (fun (_ : List (Int × Int)) (W : World) => Boxed W w.heap.size 4 (.bool false) ∧ Below w.heap.size w W)
    (fun _ _ _ => False)
    (OwnFrom.and (Own.from (boxed_own w.heap.size 4 (fun _ => .bool false)) _) (ownFrom_below (Nat.le_refl _) (by omega)))
    (fun _ _ _ _ _ hs _ _ => hs)
    ⟨bR, hB⟩
    (fun (x : Int × Int) => { tmps := #[.int .i64 place, .int .i64 v, undef, undef, .pointer (some ⟨w.heap.size, 0, none⟩), .pointer none, .int .i64 (-1), .int .i64 50, .int .i64 0, .int .i64 51, .int .i64 0, .bool false, Value.func (.func 43) #[] #[.pointer (some ⟨w.heap.size + 1, 0, none⟩)], .tuple #[.int .i64 (-1), .int .i64 50], .pointer none, .int .i64 v, .tuple #[.int .i64 (-1), .int .i64 50], .int .i64 (-1), .int .i64 50, .tuple #[.int .i64 0, .int .i64 51], .pointer none, .int .i64 place, .tuple #[.int .i64 0, .int .i64 51], .int .i64 0, .int .i64 51, .tuple #[.int .i64 0, .bool false], .pointer none, .int .i64 place, .tuple #[.int .i64 0, .bool false], .int .i64 0, .bool false, .pointer none, Value.func (.func 43) #[] #[.pointer (some ⟨w.heap.size + 1, 0, none⟩)], .bool true, .bool false, .bool false, Value.func (.func 43) #[] #[.pointer (some ⟨w.heap.size + 1, 0, none⟩)], .bool false, .bool false, Value.func (.func 43) #[] #[.pointer (some ⟨w.heap.size + 1, 0, none⟩)], .int .i64 x.1, .int .i64 x.2, undef, undef, undef, undef, undef, undef, undef, undef, undef, undef, undef, undef, undef, undef, undef, undef, undef, undef, undef, undef, undef, undef, undef, undef, undef, undef, undef, undef, undef, undef, undef, undef, undef, undef, undef, undef, undef, undef, undef], defers := [] }) ?assign ?body ?done ?stop
  case assign =>
    intro l x W K hK
    gi_wp2
    exact hK
  case body =>
    rintro l pre x W _ hlt
    exact absurd hlt (Nat.not_lt_zero _)
  case done =>
    rintro D ys W hD rfl ⟨hbx, hB2⟩ hK
    have hc := hbx.cell
    have hf := hbx.frozen
    gi_wp2_with (first
      | (refine ⟨trivial, ?_⟩; gi_at_call 27; refine (callsIn_wide.2 (set_nil place v _)).mono ?_; rintro e w' ⟨rfl, rfl⟩)
      | (refine ⟨trivial, ?_⟩; gi_at_call 21; refine (callsIn_wide.2 (free_nil _)).mono ?_; rintro e w' ⟨rfl, rfl⟩)
      | (refine ⟨trivial, ?_⟩; gi_at_call 20; refine (callsIn_wide.2 (used_nil _)).mono ?_; rintro e w' ⟨rfl, rfl⟩))
    have hK' : (w'.setCell ⟨w.heap.size, 0, none⟩ (.bool true)).heap[D]? = some (.deferred (some [])) := (KeepsOthers.setCell _ _ _).same D _ hK rfl
    refine ⟨by simp, .inl ⟨_, _, rfl, run_takeDeferred hK', ?_⟩⟩
    have hc5 := cell_kept (World.cell?_setCell_same' w' ⟨w.heap.size, 0, none⟩ (.bool true) (by rw [hc]; rfl)) (grownBy_putObj' _ D (.deferred none)) (fun r e => by cases e; exact ⟨_, hK', rfl⟩)
    refine ⟨.bool true, ?_, rfl, ?_⟩
    · simp [results, Try.f8, go_sem, hc5]
    · exact (hB2.setCell (p := ⟨w.heap.size, 0, none⟩) (Nat.le_refl _) _).trans (belowK_b (w := w) (Nat.le_refl _) _ D _ _ (by omega) hK' rfl rfl)
  case stop =>
    rintro D c pre W _ _ h _
    exact h.elim
theorem poolNil_calls (place v : Int) (w : World) : Calls Try.prog 8 #[.int .i64 place, .int .i64 v] w fun e W' => e = .returned (.bool true) ∧ Below w.heap.size w W' := callsIn_wide.1 (poolNil_in place v w)
end Go.Proofs.Ytmcmkdpidppcaaa.St
