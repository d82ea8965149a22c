/- A queue of whole numbers: the iterator over what All has set down. -/
import Derived.RangeFuncBox
import Derived.RangeFuncNested
import Derived.RangeFuncBound
import Derived.RangeFuncCalls
import Derived.RangeFuncLeaves
import Derived.Shelf.Abstract
import Derived.Shelf.RegionOpen
import Derived.WalkKit
import Derived.OwnWalkIn
import Derived.TacticsInMore
import Derived.LoopNIn
import Derived.LoopIn
import Derived.Test.YtgolghimefageaaQWN
namespace Go.Proofs.Ytgolghimefageaa.QW
open Go.Proofs Go.RowKit Go.Shelf Go.Proofs.YtgolghimefageaaW.PrintWords Go.Proofs.Ytgolghimefageaa.St
attribute [local go_sem] Oper.semAt_some
def pairs (E : List El) : List (Int × Int) := E.map fun x => (x.k, x.v)
theorem pairs_take (E : List El) (k : Nat) (h : k < E.length) : pairs (E.take (k + 1)) = pairs (E.take k) ++ [(E[k]!.k, E[k]!.v)] := by
  unfold pairs
  rw [List.take_succ_eq_append_getElem h, List.map_append, getElem!_pos E k h]
  rfl
/-- What a round keeps: all below n₀, and two blocks. -/
def Kq2 (n₀ b1 b2 : Nat) (A B : World) : Prop := Below n₀ A B ∧ ∀ k c t, (k = b1 ∨ k = b2) → A.heap[k]? = some (.cells c t (0, 0)) → B.heap[k]? = some (.cells c t (0, 0))
theorem kq2_t {n₀ b1 b2 : Nat} : ∀ {A B C : World}, Kq2 n₀ b1 b2 A B → Kq2 n₀ b1 b2 B C → Kq2 n₀ b1 b2 A C := fun h h' => ⟨h.1.trans h'.1, fun k c t hk hc => h'.2 k c t hk (h.2 k c t hk hc)⟩
theorem kq2_b {n₀ b1 b2 : Nat} {w : World} (hn : n₀ ≤ w.heap.size) : ∀ (W : World) (l : Nat) (o o' : Obj), w.heap.size ≤ l → W.heap[l]? = some o → o.isCells = false → o.isWalk = false → Kq2 n₀ b1 b2 W (W.putObj l o') := by
  intro W l o o' hl ho hc hw
  refine ⟨belowK_b hn W l o o' hl ho hc hw, fun k c t hk hkc => ?_⟩
  have hne : some k ≠ some l := by
    intro e
    injection e with e
    subst e
    rw [hkc] at ho
    injection ho with ho
    subst ho
    cases hc
  exact ((grownBy_putObj' W l o').block k (Array.getElem?_eq_some_iff.1 hkc).1 hne).trans hkc
set_option maxRecDepth 100000 in
set_option maxHeartbeats 4000000 in
theorem all1_in (m : Nat) (hm : 1 ≤ m) (l Bs n₀ : Nat) (ga : Option Addr) (g : Nat) (E : List El) (cap : Nat) (cur : Array Value) (J Jx : List (Int × Int) → World → Prop) (hE : E.length ≤ 65536) (hga : 0 < E.length → ga = some ⟨g, 0, none⟩) (hcur : ∀ (j : Nat) (u : Value), (elRow E)[j]? = some u → cur[j]? = some u)
    (hJ : ∀ s (A B : World), J s A → A.grownBy B none → J s B)
    (hY : ∀ pre (x : Int × Int) (W : World), J pre W → pre.length < E.length → YieldAt Fence.wide (m - 1) Try.prog l #[.int .i64 x.1, .int .i64 x.2] W fun e W' =>
      (e = .returned (.bool true) ∧ J (pre ++ [x]) W' ∧ Kq2 n₀ Bs g W W') ∨ (e = .returned (.bool false) ∧ Jx (pre ++ [x]) W'))
    (W : World) (hBs : Boxed W Bs 106 (.slice ga E.length cap)) (hg : 0 < E.length → W.heap[g]? = some (.cells cur 102 (0, 0))) (h0 : J [] W) :
    CallsIn Fence.wide m Try.prog 45 #[.func (.yield l) #[] #[], .pointer (some ⟨Bs, 0, none⟩)] W fun e W' => (∃ v, e = .returned v) ∧ ((∃ ys, ys = pairs E ∧ J ys W') ∨ (∃ pre, (∃ k, k ≤ E.length ∧ pre = pairs (E.take k)) ∧ Jx pre W')) := by
  have hmx : Try.prog.follows .mixedOrders = true := by kernel_rfl
  have hc := hBs.cell
  refine callsIn_of_wp Try.func45 rfl trivial ?_ rfl
  simp only [Try.ntmps45, List.size_toArray, List.length_cons, List.length_nil, Nat.reduceAdd, Nat.reduceSub, Array.replicate_succ, Array.replicate_zero, List.push_toArray, List.append_toArray, List.nil_append, List.cons_append]
  gi_wp2
  gi_loopw [7] (fun v wr => ∃ k : Nat, v = .int .i64 (k : Int) ∧ k ≤ E.length ∧ J (pairs (E.take k)) wr ∧ Boxed wr Bs 106 (.slice ga E.length cap) ∧ (0 < E.length → wr.heap[g]? = some (.cells cur 102 (0, 0)))) (fun v _ => E.length - (intOf v).toNat)
  case atStart => exact ⟨0, rfl, Nat.zero_le _, h0, hBs, hg⟩
  case round =>
    obtain ⟨k, rfl, hk, hJs, hbs, hgr⟩ := hrel
    have HBS := Aside0.mk hbs
    by_cases hlt : k < E.length
    · have hgr1 := hgr (by omega)
      have HGR := Aside0.mk hgr1
      have hga2 := hga (by omega)
      subst hga2
      obtain ⟨q0, q1, q2, q3⟩ := elRow_get E k hlt
      have k0 : wr.cell? ⟨g, k * 4, none⟩ = some (.int .i64 E[k]!.k) := by rw [cell_of_row wr g _ cur _ (0, 0) hgr1]; exact hcur _ _ q0
      have k1 : wr.cell? ⟨g, k * 4 + 1, none⟩ = some (.int .i64 E[k]!.v) := by rw [cell_of_row wr g _ cur _ (0, 0) hgr1]; exact hcur _ _ q1
      have k2 : wr.cell? ⟨g, k * 4 + 2, none⟩ = some (.int .i64 E[k]!.came) := by rw [cell_of_row wr g _ cur _ (0, 0) hgr1]; exact hcur _ _ q2
      have k3 : wr.cell? ⟨g, k * 4 + 3, none⟩ = some (.int .i64 E[k]!.ticket) := by rw [cell_of_row wr g _ cur _ (0, 0) hgr1]; exact hcur _ _ q3
      have z1 : decide ((k : Int) < (E.length : Int)) = true := decide_eq_true (by omega)
      have z3 : 0 ≤ (k : Int) := by omega
      have z4 : (k : Int) < (E.length : Int) := by omega
      clear q0 q1 q2 q3 hgr hgr1 hbs hc
      obtain ⟨x, ex⟩ : ∃ x, x = E[k]! := ⟨_, rfl⟩
      rw [← ex] at k0 k1 k2 k3
      have EX := Aside0.mk ex
      clear ex
      have hlen : (pairs (E.take k)).length < E.length := by
        unfold pairs
        rw [List.length_map, List.length_take]
        omega
      have hJ1 : J (pairs (E.take k)) (wr.alloc (.cells #[.int .i64 x.k, .int .i64 x.v, .int .i64 x.came, .int .i64 x.ticket] 102)) := hJ _ wr _ hJs (World.grownBy_alloc wr _ none)
      obtain ⟨fn, tmps, assign, body, hy, hR⟩ := hY _ (x.k, x.v) _ hJ1 hlen
      dsimp only at hy
      gi_wp2
      refine hR.mono ?_
      rintro e W3 (⟨rfl, hJ3, hk3⟩ | ⟨rfl, hJx3⟩)
      · have hbs3 : Boxed W3 Bs 106 (.slice (some ⟨g, 0, none⟩) E.length cap) := hk3.2 Bs _ _ (Or.inl rfl) (HBS.out.alloc _)
        have hgr3 : W3.heap[g]? = some (.cells cur 102 (0, 0)) := hk3.2 g _ _ (Or.inr rfl) ((World.grownBy_alloc wr _ none).block g (Array.getElem?_eq_some_iff.1 HGR.out).1 (by simp) |>.trans HGR.out)
        gi_wp2
        go_roundw
        case rel => exact ⟨k + 1, by (congr 1), by omega, by rw [pairs_take E k hlt, ← EX.out]; exact hJ3, hbs3, fun _ => hgr3⟩
        case measure => simp [intOf]; omega
      · gi_wp2
        refine bodyPost_ret (results_none rfl _ _ _) rfl ?_
        exact ⟨⟨_, rfl⟩, .inr ⟨_, ⟨k + 1, by omega, by rw [pairs_take E k hlt, ← EX.out]⟩, hJx3⟩⟩
    · obtain rfl : k = E.length := by omega
      clear hgr hbs hc
      rw [List.take_length] at hJs
      gi_wp2
      go_end0
      exact ⟨⟨_, rfl⟩, .inl ⟨_, rfl, hJs⟩⟩
theorem all_stopsM (m : Nat) (hm : 1 ≤ m) (Bs n₀ : Nat) (ga : Option Addr) (g : Nat) (E : List El) (cap : Nat) (cur : Array Value) (w : World) (hE : E.length ≤ 65536) (hga : 0 < E.length → ga = some ⟨g, 0, none⟩) (hcur : ∀ (j : Nat) (u : Value), (elRow E)[j]? = some u → cur[j]? = some u) (hbs : Bs < w.heap.size) (hg : 0 < E.length → g < w.heap.size)
    (hBs : Boxed w Bs 106 (.slice ga E.length cap)) (hgr : 0 < E.length → w.heap[g]? = some (.cells cur 102 (0, 0))) :
    SeqStopsK Fence.wide m Try.prog 45 #[.pointer (some ⟨Bs, 0, none⟩)] (fun x : Int × Int => #[Value.int .i64 x.1, Value.int .i64 x.2]) (Kq2 n₀ Bs g) (fun ys => ys = pairs E) (fun pre => ∃ k, k ≤ E.length ∧ pre = pairs (E.take k)) E.length w := fun l J Jx W hW hJ hJx hY h0 => by
  have hb : Boxed W Bs 106 (.slice ga E.length cap) := (hW.block Bs hbs).trans hBs
  exact all1_in m hm l Bs n₀ ga g E cap cur J Jx hE hga hcur (fun s A B h1 h2 => hJ s A B none h1 h2 (fun r e => by cases e)) hY W hb (fun h => (hW.block g (hg h)).trans (hgr h)) h0
end Go.Proofs.Ytgolghimefageaa.QW
