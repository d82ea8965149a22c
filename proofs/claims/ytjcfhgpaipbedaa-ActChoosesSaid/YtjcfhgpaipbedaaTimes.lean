/- vec.Times: a range over slices.Chunk. -/
import Derived.RangeFuncBox
import Derived.RangeFuncNested
import Derived.RangeFuncBound
import Derived.RangeFuncCalls
import Derived.RangeFuncLeaves
import Derived.Shelf.Abstract
import Derived.Shelf.RegionOpen
import Derived.WalkKit
import Derived.OwnWalkIn
import Derived.TacticsInMore
import Derived.LoopNIn
import Derived.LoopIn
import Derived.Maps.AppendAt
import Derived.Lib.Hide
import Derived.Test.YtjcfhgpaipbedaaProg
import Derived.Test.YtjcfhgpaipbedaaKInvWordsMore
namespace Go.Proofs.Ytjcfhgpaipbedaa.St
open Go.Proofs Go.RowKit Go.Shelf Go.Proofs.YtjcfhgpaipbedaaW.PrintWords
attribute [local go_sem] Oper.semAt_some

/-- What has come when k rounds are over. -/
def upto {α : Type} (f : Nat → α) (k : Nat) : List α := (List.range k).map f
theorem upto_succ {α : Type} (f : Nat → α) (k : Nat) : upto f (k + 1) = upto f k ++ [f k] := by simp [upto, List.range_succ]
theorem upto_length {α : Type} (f : Nat → α) (k : Nat) : (upto f k).length = k := by simp [upto]

set_option maxHeartbeats 1000000 in
/-- slices.Chunk(s, n): both are boxed; the function value captures the boxes. -/
theorem chunk_in (a : Option Addr) (len cap : Nat) (n : Int) (hn : 1 ≤ n) (w : World) :
    CallsIn Fence.wide 2 Try.prog 52 #[.slice a len cap, .int .i64 n] w fun e w' => e = .returned (.func (.func 63) #[] #[.pointer (some ⟨w.heap.size, 0, none⟩), .pointer (some ⟨w.heap.size + 1, 0, none⟩)]) ∧
      w' = (w.alloc (.cells #[.slice a len cap] 23)).alloc (.cells #[.int .i64 n] 3) := by
  have hlt : (decide (n < 1)) = false := by simp; omega
  refine callsIn_of_wp Try.func52 rfl trivial ?_ rfl
  simp only [Try.ntmps52, List.size_toArray, List.length_cons, List.length_nil, Nat.reduceAdd, Nat.reduceSub, Array.replicate_succ, Array.replicate_zero, List.push_toArray, List.append_toArray, List.nil_append, List.cons_append]
  gi_wp2
  go_ret
  exact ⟨rfl, rfl⟩

/-- What a round keeps: all below n₀, and two boxes. -/
def Kp2 (n₀ b1 b2 : Nat) (A B : World) : Prop := Below n₀ A B ∧ ∀ k c t, (k = b1 ∨ k = b2) → A.heap[k]? = some (.cells c t (0, 0)) → B.heap[k]? = some (.cells c t (0, 0))
theorem kp2_t {n₀ b1 b2 : Nat} : ∀ {A B C : World}, Kp2 n₀ b1 b2 A B → Kp2 n₀ b1 b2 B C → Kp2 n₀ b1 b2 A C := fun h h' => ⟨h.1.trans h'.1, fun k c t hk hc => h'.2 k c t hk (h.2 k c t hk hc)⟩
theorem kp2_b {n₀ b1 b2 : Nat} {w : World} (hn : n₀ ≤ w.heap.size) : ∀ (W : World) (l : Nat) (o o' : Obj), w.heap.size ≤ l → W.heap[l]? = some o → o.isCells = false → o.isWalk = false → Kp2 n₀ b1 b2 W (W.putObj l o') := by
  intro W l o o' hl ho hc hw
  refine ⟨belowK_b hn W l o o' hl ho hc hw, fun k c t hk hkc => ?_⟩
  have hne : some k ≠ some l := by
    intro e
    injection e with e
    subst e
    rw [hkc] at ho
    injection ho with ho
    subst ho
    cases hc
  exact ((grownBy_putObj' W l o').block k (Array.getElem?_eq_some_iff.1 hkc).1 hne).trans hkc
set_option maxRecDepth 100000 in
set_option maxHeartbeats 2000000 in
/-- slices.Chunk's closure, at a list whose length is a multiple of n. -/
theorem chunk1_in (l Bs Bn n₀ : Nat) (ad : Addr) (len cap m n : Nat) (hlen : len = m * n) (hn : 1 ≤ n) (hcap : len ≤ cap) (hL : len ≤ 1048576) (J Jx : List Nat → World → Prop) (hJ : ∀ s (W : World) nq, J s W → J s (W.drewN nq))
    (hY : ∀ pre x W, x + n ≤ len → J pre W → pre.length < m → YieldAt Fence.wide (2 - 1) Try.prog l #[.slice (some (ad.add x)) n n] W fun e W' =>
      (e = .returned (.bool true) ∧ J (pre ++ [x]) W' ∧ Kp2 n₀ Bs Bn W W') ∨ (e = .returned (.bool false) ∧ Jx (pre ++ [x]) W'))
    (W : World) (hBs : Boxed W Bs 23 (.slice (some ad) len cap)) (hBn : Boxed W Bn 3 (.int .i64 (n : Int))) (h0 : J [] W) :
    CallsIn Fence.wide 2 Try.prog 63 #[.func (.yield l) #[] #[], .pointer (some ⟨Bs, 0, none⟩), .pointer (some ⟨Bn, 0, none⟩)] W fun e W' => (∃ v, e = .returned v) ∧
      ((∃ ys, ys = upto (fun j => j * n) m ∧ J ys W') ∨ (∃ pre, True ∧ Jx pre W')) := by
  have hmx : Try.prog.follows .mixedOrders = true := by kernel_rfl
  refine callsIn_of_wp Try.func63 rfl trivial ?_ rfl
  simp only [Try.ntmps63, List.size_toArray, List.length_cons, List.length_nil, Nat.reduceAdd, Nat.reduceSub, Array.replicate_succ, Array.replicate_zero, List.push_toArray, List.append_toArray, List.nil_append, List.cons_append]
  gi_wp2
  gi_loopw [4] (fun v wr => ∃ k i : Nat, Hid (i = k * n) ∧ k ≤ m ∧ i ≤ len ∧ v = .int .i64 i ∧ J (upto (fun j => j * n) k) wr ∧ Boxed wr Bs 23 (.slice (some ad) len cap) ∧ Boxed wr Bn 3 (.int .i64 (n : Int))) (fun v _ => len - (intOf v).toNat)
  case atStart => exact ⟨0, 0, (by show _ = _; rw [Nat.zero_mul]), Nat.zero_le _, Nat.zero_le _, rfl, h0, hBs, hBn⟩
  case round =>
    obtain ⟨k, i, hi, hk, hil, rfl, hJs, hbs, hbn⟩ := hrel
    have hcs := hbs.cell
    have hcn := hbn.cell
    by_cases hlt : i < len
    · have hend : i + n ≤ len := by
        have hkm : k < m := by
          refine Nat.lt_of_mul_lt_mul_right (a := n) ?_
          rw [← hi.out, ← hlen]; exact hlt
        have := Nat.mul_le_mul_right n hkm
        rw [Nat.succ_mul, ← hi.out] at this
        omega
      have hkm : k < m := by
        refine Nat.lt_of_mul_lt_mul_right (a := n) ?_
        rw [← hi.out, ← hlen]; exact hlt
      have hmin : min (n : Int) ((len - i : Nat) : Int) = (n : Int) := by omega
      have HL : Hid (len = m * n) := hlen
      clear hlen
      gi_wp2
      gi_big_quiet_th_o (fail)
      have hJd := hJ _ _ nq hJs
      obtain ⟨fn, tmps, assign, body, hy, hR⟩ := hY _ i (wr.drewN nq) hend hJd (by rw [upto_length]; exact hkm)
      gi_wp2
      refine hR.mono ?_
      rintro e W3 (⟨rfl, hJ3, hk3⟩ | ⟨rfl, hJx3⟩)
      · have hbn3 : Boxed W3 Bn 3 (.int .i64 (n : Int)) := hk3.2 Bn _ _ (Or.inr rfl) hbn
        have hbs3 : Boxed W3 Bs 23 (.slice (some ad) len cap) := hk3.2 Bs _ _ (Or.inl rfl) hbs
        have hcn3 := hbn3.cell
        gi_wp2
        go_roundw
        case rel => exact ⟨k + 1, i + n, (by show _ = _; rw [Nat.succ_mul, ← hi.out]), hkm, hend, by go_num, by rw [upto_succ, ← hi.out]; exact hJ3, hbs3, hbn3⟩
        case measure => simp [intOf]; omega
      · gi_wp2
        refine bodyPost_ret (results_none rfl _ _ _) rfl ?_
        exact ⟨⟨_, rfl⟩, .inr ⟨_, trivial, hJx3⟩⟩
    · have hkm : k = m := by
        refine Nat.le_antisymm hk (Nat.le_of_mul_le_mul_right (c := n) ?_ (by omega))
        rw [← hi.out, ← hlen]; omega
      subst hkm
      gi_wp2
      go_end0
      exact ⟨⟨_, rfl⟩, .inl ⟨_, rfl, hJs⟩⟩

set_option maxRecDepth 100000 in
set_option maxHeartbeats 2000000 in
/-- No rounds at an empty list. -/
theorem chunk1_nil (l Bs Bn : Nat) (A : Option Addr) (cap : Nat) (J : List Nat → World → Prop) (W : World) (hBs : W.cell? ⟨Bs, 0, none⟩ = some (.slice A 0 cap)) (h0 : J [] W) :
    CallsIn Fence.wide 2 Try.prog 63 #[.func (.yield l) #[] #[], .pointer (some ⟨Bs, 0, none⟩), .pointer (some ⟨Bn, 0, none⟩)] W fun e W' => (∃ v, e = .returned v) ∧ J [] W' := by
  refine callsIn_of_wp Try.func63 rfl trivial ?_ rfl
  simp only [Try.ntmps63, List.size_toArray, List.length_cons, List.length_nil, Nat.reduceAdd, Nat.reduceSub, Array.replicate_succ, Array.replicate_zero, List.push_toArray, List.append_toArray, List.nil_append, List.cons_append]
  gi_wp2
  gi_loopw [4] (fun v wr => v = .int .i64 0 ∧ wr.cell? ⟨Bs, 0, none⟩ = some (.slice A 0 cap) ∧ J [] wr) (fun _ _ => 0)
  case atStart => exact ⟨rfl, hBs, h0⟩
  case round =>
    obtain ⟨rfl, hc, hJs⟩ := hrel
    gi_wp2
    go_end0
    exact ⟨⟨_, rfl⟩, hJs⟩

/-- An offset that fits. -/
def clip (len n x : Nat) : Nat := if x + n ≤ len then x else 0
theorem clip_le {len n x : Nat} (h : n ≤ len) : clip len n x + n ≤ len := by
  unfold clip
  split <;> omega
theorem clip_id {len n x : Nat} (h : x + n ≤ len) : clip len n x = x := if_pos h
theorem chunk_stops (Bs Bn n₀ : Nat) (A : Option Addr) (len cap m n : Nat) (w : World) (hlen : len = m * n) (hn : 1 ≤ n) (hcap : len ≤ cap) (hL : len ≤ 1048576) (hA : 0 < len → ∃ ad, A = some ad) (hbs : Bs < w.heap.size) (hbn : Bn < w.heap.size)
    (hBs : Boxed w Bs 23 (.slice A len cap)) (hBn : Boxed w Bn 3 (.int .i64 (n : Int))) :
    SeqStopsK Fence.wide 2 Try.prog 63 #[.pointer (some ⟨Bs, 0, none⟩), .pointer (some ⟨Bn, 0, none⟩)] (fun x : Nat => #[Value.slice (some ((A.getD default).add (clip len n x))) n n]) (Kp2 n₀ Bs Bn) (fun ys => ys = upto (fun j => j * n) m) (fun _ => True) m w := fun l J Jx W hW hJ hJx hY h0 => by
  have hbs' : Boxed W Bs 23 (.slice A len cap) := (hW.block Bs hbs).trans hBs
  have hbn' : Boxed W Bn 3 (.int .i64 (n : Int)) := (hW.block Bn hbn).trans hBn
  by_cases h : 0 < len
  · obtain ⟨ad, rfl⟩ := hA h
    exact chunk1_in l Bs Bn n₀ ad len cap m n hlen hn hcap hL J Jx (fun s W nq hs => hJ s W (W.drewN nq) none hs ⟨rfl, rfl, rfl, Nat.le_refl _, fun _ _ _ => rfl⟩ (fun r e => by cases e)) (fun pre x W1 hx hj hl => by have := hY pre x W1 hj hl; dsimp only at this; rw [clip_id hx] at this; exact this) W hbs' hbn' h0
  · obtain rfl : len = 0 := by omega
    have hm : m = 0 := by
      cases m with
      | zero => rfl
      | succ m => rw [Nat.succ_mul] at hlen; omega
    subst hm
    exact (chunk1_nil l Bs Bn A cap J W hbs'.cell h0).mono fun e W' ⟨he, hj⟩ => ⟨he, .inl ⟨_, rfl, hj⟩⟩

/-- out = append(out, ..) as a step of a region that draws, in a round. -/
theorem step_append_in {F : Fence} {n : Nat} {P : Program} {ops : Array Oper} {o : Oper} {a : Act} {w : World} {K : Act → World → Prop} {Q : Exit → Act → World → Prop} {E : Prop}
    (hg : o.guard = none) (s x : Operand) (t : TypeId) (hop : o.op = Op.call { callee := Callee.builtin Builtin.append, args := #[s, x], argTypes := #[t, t] })
    (base : Nat) (e : TypeId) (i : TypeInfo) (z : Value) (size bytes : Nat) (h1 : P.underlying t = some (.slice e)) (h2 : P.info? e = some i) (h3 : i.zero = some z) (h4 : i.size = size) (h5 : i.bytes = bytes) (h6 : z.cells.size = size) (h7 : 0 < size)
    (v : Value) (k : Nat) (xs : List Value) (hs : a.eval s = v) (hown : w.ownsRow base e size v k xs) (ad : Addr) (m c : Nat) (news : List Value) (hx : a.eval x = .slice (some ad) m c) (hn : news.length = m * size)
    (hc : ∀ j u, news[j]? = some u → w.cell? (ad.add j) = some u) (h1c : ∀ u ∈ news, u.oneCell' = true) (b1 : k + m ≤ maxLen) (b2 : (k + m) * bytes ≤ 140737488355328) (b3 : base ≤ w.heap.size)
    (hK : ∀ v' w', w'.ownsRow base e size v' (k + m) (xs ++ news) → w.grownBy w' v.ownBlock → K (a.put o.dst v') w') :
    if Region.wanted o (yielded ops a.tmps) = true then Oper.wpIn F n P o a w K Q else E := by
  have hw : Region.wanted o (yielded ops a.tmps) = true := by simp [Region.wanted, hg]
  rw [if_pos hw]
  obtain ⟨v', w', hrun, r1, r2, r3⟩ := run_append_own (P := P) w base t o.type e i z size bytes h1 h2 h3 h4 h5 h6 h7 v k xs hown ad m c news hn hc h1c b1 b2 b3
  unfold Oper.wpIn
  refine ⟨?_, ?_⟩
  · simp [Oper.about, hop, resolve, Target.leads, Sem.run_pure]
  · rw [Oper.semAt_plain F _ _ (by rw [hop]; intro c hc'; cases hc')]
    simp [execOp, hop, resolve, invoke, builtin, hs, hx, hrun, Result.andThen]
    exact hK v' w' r1 r2
theorem own_d {W : World} {base : Nat} {e : TypeId} {size n : Nat} {v : Value} {xs : List Value} (k : Nat) (o : Obj) (h : W.ownsRow base e size v n xs) : ((W.drewN k).alloc o).ownsRow base e size v n xs := (show (W.drewN k).ownsRow base e size v n xs from h).alloc o
theorem Try.infoI64 : (Try.prog.info? 2).map (fun i => (i.zero, i.size, i.bytes)) = some (some (.int .i64 0), 1, 8) := by kernel_rfl

set_option maxRecDepth 100000 in
set_option maxHeartbeats 4000000 in
/-- vec.Times where it answers: matrix says 0, x is as long as a row. -/
theorem times_in (dot : Nat → Int) (A0 : Option Addr) (len c0 : Nat) (m n : Nat) (A2 : Option Addr) (c2 : Nat) (w : World) (hlen : len = m * n) (hn : 1 ≤ n) (hcap : len ≤ c0) (hL : len ≤ 1048576) (hA0 : 0 < len → ∃ ad, A0 = some ad)
    (hmat : Calls Try.prog 51 #[.slice A0 len c0, .int .i64 (n : Int)] (w.alloc (.cells #[.slice A2 n c2] 23)) fun e w' => e = .returned (.int .i64 0) ∧ ∃ j, w' = (w.alloc (.cells #[.slice A2 n c2] 23)).drewN j)
    (hdot : ∀ (W : World) (ad : Addr) (x : Nat), A0 = some ad → x + n ≤ len → Below w.heap.size w W → Calls Try.prog 53 #[.slice (some (ad.add x)) n n, .slice A2 n c2] W fun e w' => e = .returned (.int .i64 (dot x)) ∧ ∃ j, w' = W.drewN j) :
    CallsIn Fence.wide 3 Try.prog 31 #[.slice A0 len c0, .int .i64 (n : Int), .slice A2 n c2] w fun e W' => ∃ v, e = .returned (.tuple #[v, .int .i64 0]) ∧
      W'.ownsRow w.heap.size 2 1 v m ((upto (fun j => Value.int .i64 (dot (j * n))) m)) ∧ Below w.heap.size w W' := by
  obtain ⟨i0, hi, hz0, hz1, hz2⟩ := info_parts Try.infoI64
  have HL : Hid (len = m * n) := hlen
  clear hlen
  refine callsIn_of_wp_marks Try.func31 rfl trivial ?_ rfl
  simp only [Try.ntmps31, List.size_toArray, List.length_cons, List.length_nil, Nat.reduceAdd, Nat.reduceSub, Array.replicate_succ, Array.replicate_zero, List.push_toArray, List.append_toArray, List.nil_append, List.cons_append]
  gi_wp2_with (first
    | (refine ⟨trivial, ?_⟩; gi_at_call 51; refine (callsIn_wide.2 hmat).mono ?_; rintro e w' ⟨rfl, jm, rfl⟩)
    | (refine ⟨trivial, ?_⟩; gi_at_call 52; refine (chunk_in A0 len c0 (n : Int) (by omega) _).mono ?_; rintro e w' ⟨rfl, rfl⟩))
  obtain ⟨Wa, hWa⟩ : ∃ Wa, Wa = (w.alloc (.cells #[.slice A2 n c2] 23)).drewN jm := ⟨_, rfl⟩
  rw [← hWa]
  have hsa : Wa.heap.size = w.heap.size + 1 := by rw [hWa]; exact World.size_alloc _ _
  have bXa : Boxed Wa w.heap.size 23 (.slice A2 n c2) := by rw [hWa]; exact Boxed.new w _ _
  have hBa : Below w.heap.size w Wa := by rw [hWa]; exact pw_below_drewN (below_alloc (Below.refl _ w) _) _
  clear hWa
  obtain ⟨W0, hW0⟩ : ∃ W0, W0 = ((Wa.alloc (.cells #[.slice none 0 0] 38)).alloc (.cells #[.slice A0 len c0] 23)).alloc (.cells #[.int .i64 (n : Int)] 3) := ⟨_, rfl⟩
  rw [← hW0]
  have hsz : W0.heap.size = w.heap.size + 4 := by rw [hW0]; simp [hsa]
  have bX : Boxed W0 w.heap.size 23 (.slice A2 n c2) := by rw [hW0]; exact ((bXa.alloc _).alloc _).alloc _
  have bO : Boxed W0 (w.heap.size + 1) 38 (.slice none 0 0) := by
    have h := ((Boxed.new Wa 38 (.slice none 0 0)).alloc (.cells #[.slice A0 len c0] 23)).alloc (.cells #[.int .i64 (n : Int)] 3)
    rw [hsa] at h
    rw [hW0]; exact h
  have bS : Boxed W0 (w.heap.size + 1 + 1) 23 (.slice A0 len c0) := by
    have h := (Boxed.new (Wa.alloc (.cells #[.slice none 0 0] 38)) 23 (.slice A0 len c0)).alloc (.cells #[.int .i64 (n : Int)] 3)
    rw [World.size_alloc, hsa] at h
    rw [hW0]; exact h
  have bN : Boxed W0 (w.heap.size + 1 + 1 + 1) 3 (.int .i64 (n : Int)) := by
    have h := Boxed.new ((Wa.alloc (.cells #[.slice none 0 0] 38)).alloc (.cells #[.slice A0 len c0] 23)) 3 (.int .i64 (n : Int))
    rw [World.size_alloc, World.size_alloc, hsa] at h
    rw [hW0]; exact h
  have hB0 : Below w.heap.size w W0 := by rw [hW0]; exact below_alloc (below_alloc (below_alloc hBa _) _) _
  clear hW0 hmat bXa hBa hsa
  refine wpIn_rangeFunc_ownG rfl (by omega) (gf := 63) (lb := #[.pointer (some ⟨w.heap.size + 1 + 1, 0, none⟩), .pointer (some ⟨w.heap.size + 1 + 1 + 1, 0, none⟩)]) rfl trivial (enters_of Try.func63 (by kernel_rfl) rfl)
    (chunk_stops (w.heap.size + 1 + 1) (w.heap.size + 1 + 1 + 1) w.heap.size A0 len c0 m n W0 HL.out hn hcap hL hA0 (by omega) (by omega) bS bN) kp2_t (kp2_b (by omega)) (Below.refl _ _) (fun _ => rfl)
    (fun (pre : List Nat) (W : World) => (∃ v, Boxed W (w.heap.size + 1) 38 v ∧ W.ownsRow w.heap.size 2 1 v pre.length (pre.map fun x => Value.int .i64 (dot (clip len n x))) ∧ True) ∧ (Boxed W w.heap.size 23 (.slice A2 n c2) ∧ Boxed W (w.heap.size + 1 + 1) 23 (.slice A0 len c0) ∧ Boxed W (w.heap.size + 1 + 1 + 1) 3 (.int .i64 (n : Int))) ∧ Below w.heap.size w W)
    (fun _ _ _ => False)
    (OwnFrom.and (Own.from (holdsRow_own w.heap.size (w.heap.size + 1) 38 2 1 (fun (pre : List Nat) => pre.length) (fun pre => pre.map fun x => Value.int .i64 (dot (clip len n x))) (fun _ _ => True)) _) (OwnFrom.and (OwnFrom.and (Own.from (boxed_own w.heap.size 23 (fun _ => .slice A2 n c2)) _) (OwnFrom.and (Own.from (boxed_own (w.heap.size + 1 + 1) 23 (fun _ => .slice A0 len c0)) _) (Own.from (boxed_own (w.heap.size + 1 + 1 + 1) 3 (fun _ => .int .i64 (n : Int))) _))) (ownFrom_below (Nat.le_refl _) (by omega))))
    (fun _ _ _ _ _ hs _ _ => hs)
    ⟨⟨_, bO, World.ownsRow_nil _ _ _ _, trivial⟩, ⟨bX, bS, bN⟩, hB0⟩
    (fun (x : Nat) => { tmps := #[.slice A0 len c0, .int .i64 (n : Int), .slice A2 n c2, undef, undef, .pointer (some ⟨w.heap.size, 0, none⟩), .slice none 0 0, .int .i64 0, .int .i64 0, .pointer (some ⟨w.heap.size + 1, 0, none⟩), .slice (some ((A0.getD default).add (clip len n x))) n n,
      .slice A0 len c0, .int .i64 (n : Int), .int .i64 0, .int .i64 0, .bool false, undef, .slice A2 n c2, .int .i64 (n : Int), .int .i64 (n : Int), .bool false, .slice A0 len c0, .int .i64 (n : Int),
      .func (.func 63) #[] #[.pointer (some ⟨w.heap.size + 1 + 1, 0, none⟩), .pointer (some ⟨w.heap.size + 1 + 1 + 1, 0, none⟩)], .slice (some ((A0.getD default).add (clip len n x))) n n, undef, undef, undef, undef, undef, undef, undef], defers := [] }) ?assign ?body ?done ?stop
  case assign =>
    intro l x W K hK
    gi_wp2
    exact hK
  case body =>
    rintro l pre x W ⟨⟨v, hv, hrow, _⟩, ⟨hx, hS, hN⟩, hB⟩ hlt
    have hmx : Try.prog.follows .mixedOrders = true := by kernel_rfl
    have hc := hv.cell
    have hcx := hx.cell
    have hml : 0 < len := by
      have h := HL.out
      have h2 := Nat.mul_le_mul_left m hn
      omega
    obtain ⟨ad, rfl⟩ := hA0 hml
    have hXl : clip len n x + n ≤ len := clip_le (by
      have h := HL.out
      have h2 := Nat.mul_le_mul_right n (show 1 ≤ m by omega)
      omega)
    obtain ⟨X, hX⟩ : ∃ X, X = clip len n x := ⟨_, rfl⟩
    rw [← hX] at hXl ⊢
    have HX := Go.Lib.hid hX
    clear hX
    have hpl : pre.length < 1048576 := by
      have h := HL.out
      have h2 := Nat.mul_le_mul_left m hn
      omega
    gi_wp2
    have hcA : ∀ k, ((W.drewN k).alloc (.cells #[.int .i64 (dot X)] 2)).cell? ⟨w.heap.size + 1, 0, none⟩ = some v := fun k => (Boxed.alloc (W := W.drewN k) hv _).cell
    refine wpIn_region_any hmx ?_
    change wpAnyIn _ _ _ _ _ _ _ _ _ (World.drew _)
    all_goals (refine wpAnyIn_ready (rs := [0, 1, 2]) (by decide +kernel) (by simp) ?_; refine AllReadyIn.cons rfl (fun K hK => ?_) (AllReadyIn.cons rfl (fun K hK => ?_) (AllReadyIn.cons rfl (fun K hK => ?_) (AllReadyIn.nil))) <;> (go_simp; refine hK _ _ ?_; clear hK K))
    all_goals first
      | (refine wpAnyIn_ready (rs := [1, 2]) (by decide +kernel) (by simp) ?_; refine AllReadyIn.cons rfl (fun K hK => ?_) (AllReadyIn.cons rfl (fun K hK => ?_) (AllReadyIn.nil)) <;> (go_simp; refine hK _ _ ?_; clear hK K))
      | (refine wpAnyIn_ready (rs := [0, 2]) (by decide +kernel) (by simp) ?_; refine AllReadyIn.cons rfl (fun K hK => ?_) (AllReadyIn.cons rfl (fun K hK => ?_) (AllReadyIn.nil)) <;> (go_simp; refine hK _ _ ?_; clear hK K))
      | (refine wpAnyIn_ready (rs := [0, 1]) (by decide +kernel) (by simp) ?_; refine AllReadyIn.cons rfl (fun K hK => ?_) (AllReadyIn.cons rfl (fun K hK => ?_) (AllReadyIn.nil)) <;> (go_simp; refine hK _ _ ?_; clear hK K))
    all_goals first
      | (refine wpAnyIn_ready (rs := [2]) (by decide +kernel) (by simp) ?_; refine AllReadyIn.cons rfl (fun K hK => ?_) (AllReadyIn.nil); (go_simp; refine hK _ _ ?_; clear hK K))
      | (refine wpAnyIn_ready (rs := [1]) (by decide +kernel) (by simp) ?_; refine AllReadyIn.cons rfl (fun K hK => ?_) (AllReadyIn.nil); (go_simp; refine hK _ _ ?_; clear hK K))
      | (refine wpAnyIn_ready (rs := [0]) (by decide +kernel) (by simp) ?_; refine AllReadyIn.cons rfl (fun K hK => ?_) (AllReadyIn.nil); (go_simp; refine hK _ _ ?_; clear hK K))
      | (refine wpAnyIn_ready (rs := [0, 3]) (by decide +kernel) (by simp) ?_; refine AllReadyIn.cons rfl (fun K hK => ?_) (AllReadyIn.cons rfl (fun K hK => ?_) (AllReadyIn.nil)); (focus (go_simp; refine hK _ _ ?_; clear hK K)); rotate_left; (focus (go_simp; gi_wp2_with (refine ⟨trivial, ?_⟩; gi_at_call 53; refine (CallsIn.inRound l (callsIn_wide.2 (hdot _ ad X rfl hXl (by first | exact hB.drew | exact hB)))).mono ?_; rintro e w' ⟨rfl, jd, rfl⟩))))
    all_goals first
      | (refine wpAnyIn_ready (rs := [3]) (by decide +kernel) (by simp) ?_; refine AllReadyIn.cons rfl (fun K hK => ?_) (AllReadyIn.nil); (go_simp; gi_wp2_with (refine ⟨trivial, ?_⟩; gi_at_call 53; refine (CallsIn.inRound l (callsIn_wide.2 (hdot _ ad X rfl hXl (by first | exact hB.drew | exact hB)))).mono ?_; rintro e w' ⟨rfl, jd, rfl⟩)))
      | (refine wpAnyIn_ready (rs := [0, 4]) (by decide +kernel) (by simp) ?_; refine AllReadyIn.cons rfl (fun K hK => ?_) (AllReadyIn.cons rfl (fun K hK => ?_) (AllReadyIn.nil)) <;> (go_simp; refine hK _ _ ?_; clear hK K))
    all_goals first
      | (refine wpAnyIn_ready (rs := [4]) (by decide +kernel) (by simp) ?_; refine AllReadyIn.cons rfl (fun K hK => ?_) (AllReadyIn.nil); (go_simp; refine hK _ _ ?_; clear hK K))
      | (refine wpAnyIn_ready (rs := [0]) (by decide +kernel) (by simp) ?_; refine AllReadyIn.cons rfl (fun K hK => ?_) (AllReadyIn.nil); (go_simp; refine hK _ _ ?_; clear hK K))
    all_goals (refine wpAnyIn_ready (rs := [5]) (by decide +kernel) (by simp) ?_; refine AllReadyIn.cons rfl (fun K hK => ?_) (AllReadyIn.nil); (refine step_append_in rfl _ _ 38 rfl w.heap.size 2 i0 (.int .i64 0) 1 8 Try.underlying38 hi hz0 hz1 hz2 rfl (by decide) v pre.length (pre.map fun x => Value.int .i64 (dot (clip len n x))) rfl (own_d _ _ hrow) ⟨W.heap.size, 0, none⟩ 1 1 [.int .i64 (dot X)] rfl rfl (cell_one_new _ _ _) (by simp [Value.oneCell']) (by unfold maxLen; omega) (by omega) (by rw [World.size_alloc]; exact Nat.le_succ_of_le hB.size) ?_; intro v' w1 hown' hgrow; obtain ⟨g', cap', rfl⟩ := ownsRow_succ hown'; obtain ⟨hv1, hv2, hr2, hk2, hb2⟩ := Boxed.appended (W := W.drewN (1 + jd)) hv (by decide) hrow hB.size (Nat.le_succ _) hown' hgrow; have hx1 : Boxed w1 w.heap.size 23 (.slice A2 n c2) := (Boxed.alloc (W := W.drewN (1 + jd)) hx _).kept hgrow (hx.not_row (by decide) hrow); have hS1 : Boxed w1 (w.heap.size + 1 + 1) 23 (.slice (some ad) len c0) := (Boxed.alloc (W := W.drewN (1 + jd)) hS _).kept hgrow (hS.not_row (by decide) hrow); have hN1 : Boxed w1 (w.heap.size + 1 + 1 + 1) 3 (.int .i64 (n : Int)) := (Boxed.alloc (W := W.drewN (1 + jd)) hN _).kept hgrow (hN.not_row (by decide) hrow); have hc1 := hv1.cell; have hf1 := hv1.frozen; refine hK _ _ ?_; clear hK K))
    all_goals (refine wpAnyIn_ready (rs := [6]) (by decide +kernel) (by simp) ?_; refine AllReadyIn.cons rfl (fun K hK => ?_) (AllReadyIn.nil); (go_simp; refine hK _ _ ?_; clear hK K))
    all_goals refine wpAnyIn_done (by kernel_rfl) ?_ _
    all_goals
      refine ⟨KeepsOthers.from (⟨hk2.1, hk2.2⟩ : KeepsOthers W _) _, ⟨(pw_below_drewN (Below.refl _ W) (1 + jd)).trans hb2, ?_⟩, ⟨⟨_, hv2, ?_, trivial⟩, ⟨hx1.other (by omega) _, hS1.other (by omega) _, hN1.other (by omega) _⟩, hB.trans ((pw_below_drewN (Below.refl _ W) (1 + jd)).trans hb2)⟩⟩
      · intro k c t hk hkc
        rcases hk with rfl | rfl
        · exact (hS1.other (by omega) _).trans (hS.symm.trans hkc)
        · exact (hN1.other (by omega) _).trans (hN.symm.trans hkc)
      · rw [List.length_append, List.map_append]
        show World.ownsRow _ _ _ _ _ _ (_ ++ [Value.int .i64 (dot (clip len n x))])
        rw [← HX.out]
        exact hr2
  case done =>
    rintro D ys W hD rfl ⟨⟨v, hv, hrow, _⟩, _, hB⟩ hK
    have hc := hv.cell
    gi_wp2
    refine ⟨by simp, .inl ⟨_, _, rfl, run_takeDeferred hK, ?_⟩⟩
    rw [upto_length] at hrow
    refine ⟨_, results_list (rs := [.tmp 6, .tmp 7]) (vs := [v, .int .i64 0]) rfl (by simp) (Vals.tmp (Vals.tmp Vals.nil)), v, rfl, ?_, hB.trans (belowK_b (w := w) (Nat.le_refl _) W D _ _ (by omega) hK rfl rfl)⟩

    · have h := ownsRow_putObj hrow (.deferred none) hK rfl
      have e : (upto (fun j => j * n) m).map (fun x => Value.int .i64 (dot (clip len n x))) = upto (fun j => Value.int .i64 (dot (j * n))) m := by
        unfold upto
        rw [List.map_map]
        refine List.map_congr_left fun j hj => ?_
        have hj' := List.mem_range.1 hj
        have h2 := Nat.mul_le_mul_right n (show j + 1 ≤ m from hj')
        rw [Nat.succ_mul, ← HL.out] at h2
        show Value.int .i64 (dot (clip len n (j * n))) = _
        rw [clip_id h2]
      rw [e] at h
      exact h
  case stop =>
    rintro D c pre W _ _ h _
    exact h.elim

set_option maxHeartbeats 1000000 in
/-- vec.Times where matrix says what is wrong. -/
theorem times_wrong (A0 : Option Addr) (len c0 : Nat) (cols m : Int) (A2 : Option Addr) (n2 c2 : Nat) (w : World) (hm : m ≠ 0)
    (hmat : Calls Try.prog 51 #[.slice A0 len c0, .int .i64 cols] (w.alloc (.cells #[.slice A2 n2 c2] 23)) fun e w' => e = .returned (.int .i64 m) ∧ ∃ j, w' = (w.alloc (.cells #[.slice A2 n2 c2] 23)).drewN j) :
    Calls Try.prog 31 #[.slice A0 len c0, .int .i64 cols, .slice A2 n2 c2] w fun e W' => e = .returned (.tuple #[.slice none 0 0, .int .i64 m]) ∧ Below w.heap.size w W' := by
  have h0 : (m == 0) = false := beq_eq_false_iff_ne.2 hm
  have h1 : (m != 0) = true := bne_iff_ne.2 hm
  have H : Hid (m ≠ 0) := hm
  clear hm
  go_enter Try.func31, Try.ntmps31
  go_wp2_with (go_at_call 51; refine hmat.mono ?_; rintro e w' ⟨rfl, j, rfl⟩)
  go_ret2
  exact ⟨rfl, pw_below_drewN (below_alloc (Below.refl _ w) _) _⟩
set_option maxHeartbeats 1000000 in
/-- vec.Times where x is not as long as a row. -/
theorem times_long (A0 : Option Addr) (len c0 : Nat) (cols : Int) (A2 : Option Addr) (n2 c2 : Nat) (w : World) (hm : (n2 : Int) ≠ cols)
    (hmat : Calls Try.prog 51 #[.slice A0 len c0, .int .i64 cols] (w.alloc (.cells #[.slice A2 n2 c2] 23)) fun e w' => e = .returned (.int .i64 0) ∧ ∃ j, w' = (w.alloc (.cells #[.slice A2 n2 c2] 23)).drewN j) :
    Calls Try.prog 31 #[.slice A0 len c0, .int .i64 cols, .slice A2 n2 c2] w fun e W' => e = .returned (.tuple #[.slice none 0 0, .int .i64 80]) ∧ Below w.heap.size w W' := by
  have h0 : ((n2 : Int) == cols) = false := beq_eq_false_iff_ne.2 hm
  have h1 : ((n2 : Int) != cols) = true := bne_iff_ne.2 hm
  have H : Hid ((n2 : Int) ≠ cols) := hm
  clear hm
  go_enter Try.func31, Try.ntmps31
  go_wp2_with (go_at_call 51; refine hmat.mono ?_; rintro e w' ⟨rfl, j, rfl⟩)
  go_ret2
  exact ⟨rfl, pw_below_drewN (below_alloc (Below.refl _ w) _) _⟩
end Go.Proofs.Ytjcfhgpaipbedaa.St
