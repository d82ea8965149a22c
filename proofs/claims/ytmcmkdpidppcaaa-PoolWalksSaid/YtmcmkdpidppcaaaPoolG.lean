/- A pool of whole numbers: the iterator over what All has set down. -/
import Derived.RangeFuncBox
import Derived.RangeFuncNested
import Derived.RangeFuncBound
import Derived.RangeFuncCalls
import Derived.RangeFuncLeaves
import Derived.Shelf.Abstract
import Derived.Shelf.RegionOpen
import Derived.WalkKit
import Derived.OwnWalkIn
import Derived.TacticsInMore
import Derived.LoopNIn
import Derived.LoopIn
import Derived.Test.YtmcmkdpidppcaaaPoolF
namespace Go.Proofs.Ytmcmkdpidppcaaa.St
open Go.Proofs Go.RowKit Go.Shelf Go.Proofs.YtmcmkdpidppcaaaW.PrintWords
attribute [local go_sem] Oper.semAt_some
/-- The taken places below k. -/
def takenTo (S : List (Bool × Int)) (k : Nat) : List (Int × Int) := ((List.range k).filter fun j : Nat => (S.getD j (false, 0)).1).map fun j : Nat => ((j : Int), (S.getD j (false, 0)).2)
theorem takenTo_yes (S : List (Bool × Int)) (k : Nat) (h : (S.getD k (false, 0)).1 = true) : takenTo S (k + 1) = takenTo S k ++ [((k : Int), (S.getD k (false, 0)).2)] := by
  unfold takenTo
  rw [List.range_succ, List.filter_append, List.map_append]
  congr 1
  rw [List.filter_cons, if_pos h, List.filter_nil]
  rfl
theorem takenTo_no (S : List (Bool × Int)) (k : Nat) (h : (S.getD k (false, 0)).1 = false) : takenTo S (k + 1) = takenTo S k := by
  unfold takenTo
  rw [List.range_succ, List.filter_append, List.map_append]
  have e : [k].filter (fun j => (S.getD j (false, 0)).1) = [] := by rw [List.filter_cons, if_neg (by rw [h]; decide), List.filter_nil]
  rw [e, List.map_nil, List.append_nil]
/-- What a round keeps: all below n₀, and two blocks. -/
def Kq2 (n₀ b1 b2 : Nat) (A B : World) : Prop := Below n₀ A B ∧ ∀ k c t, (k = b1 ∨ k = b2) → A.heap[k]? = some (.cells c t (0, 0)) → B.heap[k]? = some (.cells c t (0, 0))
theorem kq2_t {n₀ b1 b2 : Nat} : ∀ {A B C : World}, Kq2 n₀ b1 b2 A B → Kq2 n₀ b1 b2 B C → Kq2 n₀ b1 b2 A C := fun h h' => ⟨h.1.trans h'.1, fun k c t hk hc => h'.2 k c t hk (h.2 k c t hk hc)⟩
theorem kq2_b {n₀ b1 b2 : Nat} {w : World} (hn : n₀ ≤ w.heap.size) : ∀ (W : World) (l : Nat) (o o' : Obj), w.heap.size ≤ l → W.heap[l]? = some o → o.isCells = false → o.isWalk = false → Kq2 n₀ b1 b2 W (W.putObj l o') := by
  intro W l o o' hl ho hc hw
  refine ⟨belowK_b hn W l o o' hl ho hc hw, fun k c t hk hkc => ?_⟩
  have hne : some k ≠ some l := by
    intro e
    injection e with e
    subst e
    rw [hkc] at ho
    injection ho with ho
    subst ho
    cases hc
  exact ((grownBy_putObj' W l o').block k (Array.getElem?_eq_some_iff.1 hkc).1 hne).trans hkc
set_option maxRecDepth 100000 in
set_option maxHeartbeats 4000000 in
theorem all1_in (m : Nat) (hm : 1 ≤ m) (l Bs g n₀ : Nat) (S : List (Bool × Int)) (cap : Nat) (cur : Array Value) (J Jx : List (Int × Int) → World → Prop) (hS : S.length ≤ 65536) (hcur : ∀ (j : Nat) (u : Value), (slotCells S)[j]? = some u → cur[j]? = some u)
    (hJ : ∀ s (A B : World), J s A → A.grownBy B none → J s B)
    (hY : ∀ pre (x : Int × Int) (W : World), J pre W → pre.length < S.length → YieldAt Fence.wide (m - 1) Try.prog l #[.int .i64 x.1, .int .i64 x.2] W fun e W' =>
      (e = .returned (.bool true) ∧ J (pre ++ [x]) W' ∧ Kq2 n₀ Bs g W W') ∨ (e = .returned (.bool false) ∧ Jx (pre ++ [x]) W'))
    (W : World) (hBs : Boxed W Bs 85 (.slice (some ⟨g, 0, none⟩) S.length cap)) (hg : W.heap[g]? = some (.cells cur 89 (0, 0))) (h0 : J [] W) :
    CallsIn Fence.wide m Try.prog 43 #[.func (.yield l) #[] #[], .pointer (some ⟨Bs, 0, none⟩)] W fun e W' => (∃ v, e = .returned v) ∧ ((∃ ys, ys = takenTo S S.length ∧ J ys W') ∨ (∃ pre, (∃ k, k ≤ S.length ∧ pre = takenTo S k) ∧ Jx pre W')) := by
  have hmx : Try.prog.follows .mixedOrders = true := by kernel_rfl
  have hc := hBs.cell
  refine callsIn_of_wp Try.func43 rfl trivial ?_ rfl
  simp only [Try.ntmps43, List.size_toArray, List.length_cons, List.length_nil, Nat.reduceAdd, Nat.reduceSub, Array.replicate_succ, Array.replicate_zero, List.push_toArray, List.append_toArray, List.nil_append, List.cons_append]
  gi_wp2
  gi_loopw [7] (fun v wr => ∃ k : Nat, v = .int .i64 (k : Int) ∧ k ≤ S.length ∧ J (takenTo S k) wr ∧ Boxed wr Bs 85 (.slice (some ⟨g, 0, none⟩) S.length cap) ∧ wr.heap[g]? = some (.cells cur 89 (0, 0))) (fun v _ => S.length - (intOf v).toNat)
  case atStart => exact ⟨0, rfl, Nat.zero_le _, h0, hBs, hg⟩
  case round =>
    obtain ⟨k, rfl, hk, hJs, hbs, hgr⟩ := hrel
    have HBS := Aside0.mk hbs
    have HGR := Aside0.mk hgr
    by_cases hlt : k < S.length
    · obtain ⟨q0, q1⟩ := slotCells_get S k hlt
      have k0 : wr.cell? ⟨g, k * 2, none⟩ = some (.bool (S.getD k (false, 0)).1) := by rw [cell_of_row wr g _ cur _ (0, 0) hgr]; exact hcur _ _ q0
      have k1 : wr.cell? ⟨g, k * 2 + 1, none⟩ = some (.int .i64 (S.getD k (false, 0)).2) := by rw [cell_of_row wr g _ cur _ (0, 0) hgr]; exact hcur _ _ q1
      have z1 : decide ((k : Int) < (S.length : Int)) = true := decide_eq_true (by omega)
      have z3 : 0 ≤ (k : Int) := by omega
      have z4 : (k : Int) < (S.length : Int) := by omega
      clear q0 q1 hgr hbs hc
      obtain ⟨t, et⟩ : ∃ t, t = (S.getD k (false, 0)).1 := ⟨_, rfl⟩
      obtain ⟨v, ev⟩ : ∃ v, v = (S.getD k (false, 0)).2 := ⟨_, rfl⟩
      rw [← et] at k0
      rw [← ev] at k1
      have ET := Aside0.mk et
      have EV := Aside0.mk ev
      clear et ev
      have hlen : (takenTo S k).length < S.length := by
        unfold takenTo
        rw [List.length_map]
        have := List.length_filter_le (fun j : Nat => (S.getD j (false, 0)).1) (List.range k)
        rw [List.length_range] at this
        omega
      cases t with
      | true =>
        have hJ1 : J (takenTo S k) (wr.alloc (.cells #[.bool true, .int .i64 v] 89)) := hJ _ wr _ hJs (World.grownBy_alloc wr _ none)
        obtain ⟨fn, tmps, assign, body, hy, hR⟩ := hY _ ((k : Int), v) _ hJ1 hlen
        dsimp only at hy
        gi_wp2
        refine hR.mono ?_
        rintro e W3 (⟨rfl, hJ3, hk3⟩ | ⟨rfl, hJx3⟩)
        · have hbs3 : Boxed W3 Bs 85 (.slice (some ⟨g, 0, none⟩) S.length cap) := hk3.2 Bs _ _ (Or.inl rfl) (HBS.out.alloc _)
          have hgr3 : W3.heap[g]? = some (.cells cur 89 (0, 0)) := hk3.2 g _ _ (Or.inr rfl) ((World.grownBy_alloc wr _ none).block g (Array.getElem?_eq_some_iff.1 HGR.out).1 (by simp) |>.trans HGR.out)
          gi_wp2
          go_roundw
          case rel => exact ⟨k + 1, by (congr 1), by omega, by rw [takenTo_yes S k ET.out.symm, ← EV.out]; exact hJ3, hbs3, hgr3⟩
          case measure => simp [intOf]; omega
        · gi_wp2
          refine bodyPost_ret (results_none rfl _ _ _) rfl ?_
          exact ⟨⟨_, rfl⟩, .inr ⟨_, ⟨k + 1, by omega, by rw [takenTo_yes S k ET.out.symm, ← EV.out]⟩, hJx3⟩⟩
      | false =>
        have hJ1 : J (takenTo S k) (wr.alloc (.cells #[.bool false, .int .i64 v] 89)) := hJ _ wr _ hJs (World.grownBy_alloc wr _ none)
        have hgr3 : (wr.alloc (.cells #[.bool false, .int .i64 v] 89)).heap[g]? = some (.cells cur 89 (0, 0)) := (World.grownBy_alloc wr _ none).block g (Array.getElem?_eq_some_iff.1 HGR.out).1 (by simp) |>.trans HGR.out
        have H3 := Aside0.mk (And.intro (And.intro hJ1 hgr3) (HBS.out.alloc (.cells #[.bool false, .int .i64 v] 89)))
        clear hgr3 hJ1 hY
        gi_wp2
        all_goals
          refine ⟨fun _ h => (by cases h), ?_⟩
          gi_wp2
          go_roundw
          case rel => exact ⟨k + 1, by (congr 1), by omega, by rw [takenTo_no S k ET.out.symm]; exact H3.out.1.1, H3.out.2, H3.out.1.2⟩
          case measure => simp [intOf]; omega
    · obtain rfl : k = S.length := by omega
      clear hgr hbs hc
      gi_wp2
      go_end0
      exact ⟨⟨_, rfl⟩, .inl ⟨_, rfl, hJs⟩⟩
theorem all_stopsM (m : Nat) (hm : 1 ≤ m) (Bs g n₀ : Nat) (S : List (Bool × Int)) (cap : Nat) (cur : Array Value) (w : World) (hS : S.length ≤ 65536) (hcur : ∀ (j : Nat) (u : Value), (slotCells S)[j]? = some u → cur[j]? = some u) (hbs : Bs < w.heap.size) (hg : g < w.heap.size)
    (hBs : Boxed w Bs 85 (.slice (some ⟨g, 0, none⟩) S.length cap)) (hgr : w.heap[g]? = some (.cells cur 89 (0, 0))) :
    SeqStopsK Fence.wide m Try.prog 43 #[.pointer (some ⟨Bs, 0, none⟩)] (fun x : Int × Int => #[Value.int .i64 x.1, Value.int .i64 x.2]) (Kq2 n₀ Bs g) (fun ys => ys = takenTo S S.length) (fun pre => ∃ k, k ≤ S.length ∧ pre = takenTo S k) S.length w := fun l J Jx W hW hJ hJx hY h0 => by
  have hb : Boxed W Bs 85 (.slice (some ⟨g, 0, none⟩) S.length cap) := (hW.block Bs hbs).trans hBs
  exact all1_in m hm l Bs g n₀ S cap cur J Jx hS hcur (fun s A B h1 h2 => hJ s A B none h1 h2 (fun r e => by cases e)) hY W hb ((hW.block g hg).trans hgr) h0
theorem all_stops (Bs g n₀ : Nat) (S : List (Bool × Int)) (cap : Nat) (cur : Array Value) (w : World) (hS : S.length ≤ 65536) (hcur : ∀ (j : Nat) (u : Value), (slotCells S)[j]? = some u → cur[j]? = some u) (hbs : Bs < w.heap.size) (hg : g < w.heap.size)
    (hBs : Boxed w Bs 85 (.slice (some ⟨g, 0, none⟩) S.length cap)) (hgr : w.heap[g]? = some (.cells cur 89 (0, 0))) :
    SeqStopsK Fence.wide 2 Try.prog 43 #[.pointer (some ⟨Bs, 0, none⟩)] (fun x : Int × Int => #[Value.int .i64 x.1, Value.int .i64 x.2]) (Kq2 n₀ Bs g) (fun ys => ys = takenTo S S.length) (fun pre => ∃ k, k ≤ S.length ∧ pre = takenTo S k) S.length w :=
  all_stopsM 2 (by decide) Bs g n₀ S cap cur w hS hcur hbs hg hBs hgr
end Go.Proofs.Ytmcmkdpidppcaaa.St
