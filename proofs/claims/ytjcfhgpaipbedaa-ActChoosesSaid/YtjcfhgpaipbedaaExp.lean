/- fixed.Exp2: its walk. -/
import Derived.WalkKit
import Derived.Deep.LoopGhost
import Derived.LoopN
import Derived.BigRegion
import Derived.Deep.WholeRow
import Derived.Deep.QuietTactic
import Derived.Test.YtjcfhgpaipbedaaProg
import Derived.Test.YtjcfhgpaipbedaaExpPlain
import Derived.Test.YtjcfhgpaipbedaaKInvWordsMore
namespace Go.Proofs.Ytjcfhgpaipbedaa.St
open Go.Proofs Go.RowKit Go.Proofs.YtjcfhgpaipbedaaW.PrintWords Go.Proofs.YtjcfhgpaipbedaaW.PrintLast Go.Proofs.YtjcfhgpaipbedaaW.PrintMore

set_option maxRecDepth 1000000 in
theorem floor_calls (x : Int) (w : World) (hx : -9223372036854775808 ≤ x ∧ x ≤ 9223372036854775807) : Calls Try.prog 59 #[.int .i64 x, .int .i64 65536] w fun e w' => e = .returned (.tuple #[.int .i64 (x / 65536), .int .i64 (x % 65536), .int .i64 0]) ∧ ∃ q, w' = w.drewN q := by
  have mixed : Try.prog.follows .mixedOrders = true := by kernel_rfl
  have hb := tmod_bounds x 65536 (by omega)
  have hq1 : -9223372036854775808 < Int.tdiv x 65536 := by omega
  have hq2 : Int.tdiv x 65536 ≤ 9223372036854775807 := by omega
  have hr : -65536 < Int.tmod x 65536 := by omega
  have hr2 : Int.tmod x 65536 < 65536 := by omega
  clear hb
  by_cases h : Int.tmod x 65536 < 0
  · obtain ⟨e1, e2⟩ := floor_neg x h
    rw [← e1, ← e2]
    clear e1 e2
    generalize hqq : Int.tdiv x 65536 = q at *
    generalize hrr : Int.tmod x 65536 = r at *
    go_enter Try.func59, Try.ntmps59
    go_wp2
    go_quiet (fail)
    go_wp2
    go_ret3
    exact ⟨rfl, _, rfl⟩
  · obtain ⟨e1, e2⟩ := floor_pos x h
    rw [← e1, ← e2]
    clear e1 e2
    generalize hqq : Int.tdiv x 65536 = q at *
    generalize hrr : Int.tmod x 65536 = r at *
    go_enter Try.func59, Try.ntmps59
    go_wp2
    go_quiet (fail)
    go_wp2
    go_ret3
    exact ⟨rfl, _, rfl⟩

attribute [local go_sem] max2_int min2_int max_two min_two
set_option maxHeartbeats 1000000 in
set_option maxRecDepth 1000000 in
theorem exp_calls (x : Int) (w : World) (hx : -9223372036854775808 ≤ x ∧ x ≤ 9223372036854775807) : Calls Try.prog 38 #[.int .i64 x] w fun e w' => e = .returned (.int .i64 (expF x)) ∧ Below w.heap.size w w' := by
  have mixed : Try.prog.follows .mixedOrders = true := by kernel_rfl
  have hb0 : Below w.heap.size w w := Below.refl _ _
  have HW : Aside (∀ q o, Below w.heap.size w ((w.drewN q).alloc o)) := fun q o => Below.alloc (B := w.heap.size) (a := w) (w := w.drewN q) ⟨rfl, rfl, rfl, Nat.le_refl _, fun _ _ => rfl⟩ (Nat.le_refl _) o
  have HQ : Aside (∀ q, Below w.heap.size w (w.drewN q)) := fun q => ⟨rfl, rfl, rfl, Nat.le_refl _, fun _ _ => rfl⟩
  have hE : Hid (expF x = if min x 0 / 65536 ≤ -31 then 0 else expY (min x 0 % 65536) / 2 ^ (-(min x 0 / 65536)).toNat) := by show _ = _; rw [expF]
  have hm1 : min x 0 ≤ 0 := by omega
  have hm2 : -9223372036854775808 ≤ min x 0 := by omega
  obtain ⟨m, hif⟩ : ∃ m, (if (0 : Int) < x then (0 : Int) else x) = m := ⟨_, rfl⟩
  have hm : min x 0 = m := by rw [← hif]; split <;> omega
  rw [hm] at hE hm1 hm2
  clear hb0 hm
  go_enter Try.func38, Try.ntmps38
  go_wp2_with fail
  ((with_reducible refine (floor_calls m _ (by omega)).mono ?_))
  rintro e' w1 ⟨rfl, q, rfl⟩
  have ht1 : 0 ≤ m % 65536 := by omega
  have ht2 : m % 65536 < 65536 := by omega
  have hq1 : m / 65536 ≤ 0 := by omega
  generalize m % 65536 = t at *
  generalize m / 65536 = q1 at *
  by_cases hle : q1 ≤ -31
  · have hR : Hid (expF x = 0) := by show _ = _; rw [hE.out, if_pos hle]
    clear hE
    go_wp2
    go_ret
    rw [hR.out]
    exact ⟨rfl, HQ.out _⟩
  · have hR : Hid (expF x = expY t / 2 ^ (-q1).toNat) := by show _ = _; rw [hE.out, if_neg hle]
    clear hE
    have hi4 : (Try.prog.info? 98).map (fun i => (i.zero, i.size)) = some (some (.agg #[.int .i64 0, .int .i64 0, .int .i64 0, .int .i64 0]), 4) := by kernel_rfl
    obtain ⟨hz4, hs4⟩ := zero_of_info hi4
    have hg : ((w.drewN q).alloc (.cells #[.int .i64 0, .int .i64 0, .int .i64 0, .int .i64 0] 98)).heap[w.heap.size]? = some (.cells #[.int .i64 0, .int .i64 0, .int .i64 0, .int .i64 0] 98 (0, 0)) := heap_alloc_last (w.drewN q) _
    have hset : ((w.drewN q).alloc (.cells #[.int .i64 0, .int .i64 0, .int .i64 0, .int .i64 0] 98)).setRow w.heap.size #[.int .i64 84941200, .int .i64 241400000, .int .i64 747400624, .int .i64 1073741824] = (w.drewN q).alloc (.cells #[.int .i64 84941200, .int .i64 241400000, .int .i64 747400624, .int .i64 1073741824] 98) := World.setRow_alloc_new (w.drewN q) _ _ _
    have hrow : ((w.drewN q).alloc (.cells #[.int .i64 84941200, .int .i64 241400000, .int .i64 747400624, .int .i64 1073741824] 98)).heap[w.heap.size]? = some (.cells #[.int .i64 84941200, .int .i64 241400000, .int .i64 747400624, .int .i64 1073741824] 98 (0, 0)) := heap_alloc_last (w.drewN q) _
    have c0 : ((w.drewN q).alloc (.cells #[.int .i64 84941200, .int .i64 241400000, .int .i64 747400624, .int .i64 1073741824] 98)).cell? ⟨w.heap.size, 0, none⟩ = some (.int .i64 84941200) := (cell_of_row _ _ 0 _ _ _ hrow).trans rfl
    have c1 : ((w.drewN q).alloc (.cells #[.int .i64 84941200, .int .i64 241400000, .int .i64 747400624, .int .i64 1073741824] 98)).cell? ⟨w.heap.size, 1, none⟩ = some (.int .i64 241400000) := (cell_of_row _ _ 1 _ _ _ hrow).trans rfl
    have c2 : ((w.drewN q).alloc (.cells #[.int .i64 84941200, .int .i64 241400000, .int .i64 747400624, .int .i64 1073741824] 98)).cell? ⟨w.heap.size, 2, none⟩ = some (.int .i64 747400624) := (cell_of_row _ _ 2 _ _ _ hrow).trans rfl
    have c3 : ((w.drewN q).alloc (.cells #[.int .i64 84941200, .int .i64 241400000, .int .i64 747400624, .int .i64 1073741824] 98)).cell? ⟨w.heap.size, 3, none⟩ = some (.int .i64 1073741824) := (cell_of_row _ _ 3 _ _ _ hrow).trans rfl
    have hb1 := HW.out q (.cells #[.int .i64 84941200, .int .i64 241400000, .int .i64 747400624, .int .i64 1073741824] 98)
    have HB : Aside (∀ k, Below w.heap.size w (((w.drewN q).alloc (.cells #[.int .i64 84941200, .int .i64 241400000, .int .i64 747400624, .int .i64 1073741824] 98)).drewN k)) := fun k => ⟨hb1.os, hb1.tape, hb1.output, hb1.size, hb1.block⟩
    clear hb1
    have hall : (#[.int .i64 84941200, .int .i64 241400000, .int .i64 747400624, .int .i64 1073741824] : Array Value).all (·.oneCell') = true := by simp [Value.oneCell']
    clear hi4
    go_wp2_with (refine wpList_store_row rfl 98 _ _ rfl w.heap.size #[.int .i64 84941200, .int .i64 241400000, .int .i64 747400624, .int .i64 1073741824] rfl rfl 98 #[.int .i64 0, .int .i64 0, .int .i64 0, .int .i64 0] hg hs4 rfl hall ?_; rw [hset])
    clear hset hg hall hs4 hz4
    generalize (w.drewN q).alloc (.cells #[.int .i64 84941200, .int .i64 241400000, .int .i64 747400624, .int .i64 1073741824] 98) = W2 at c0 c1 c2 c3 HB hrow ⊢
    clear hrow
    have b1 := step_bounds 241400000 84941200 t 84941200 (by omega) ⟨ht1, ht2⟩
    have b2 := step_bounds 747400624 (stepF 241400000 84941200 t) t 326341200 (by omega) ⟨ht1, ht2⟩
    have b3 := step_bounds 1073741824 (stepF 747400624 (stepF 241400000 84941200 t) t) t 1073741824 (by omega) ⟨ht1, ht2⟩
    have hY : Hid (expY t = stepF 1073741824 (stepF 747400624 (stepF 241400000 84941200 t) t) t) := rfl
    rw [hY.out] at hR
    clear hY
    obtain ⟨y1, hy1⟩ : ∃ y, y = stepF 241400000 84941200 t := ⟨_, rfl⟩
    rw [← hy1] at b1 b2 b3 hR
    obtain ⟨y2, hy2⟩ : ∃ y, y = stepF 747400624 y1 t := ⟨_, rfl⟩
    rw [← hy2] at b2 b3 hR
    obtain ⟨y3, hy3⟩ : ∃ y, y = stepF 1073741824 y2 t := ⟨_, rfl⟩
    rw [← hy3] at b3 hR
    unfold stepF at hy1 hy2 hy3
    obtain ⟨p1, hp1⟩ : ∃ p, (84941200 : Int) * t = p := ⟨_, rfl⟩
    obtain ⟨p2, hp2⟩ : ∃ p, y1 * t = p := ⟨_, rfl⟩
    obtain ⟨p3, hp3⟩ : ∃ p, y2 * t = p := ⟨_, rfl⟩
    rw [hp1] at hy1 b1
    rw [hp2] at hy2 b2
    rw [hp3] at hy3 b3
    obtain ⟨d1, hd1⟩ : ∃ d, Int.tdiv p1 65536 = d := ⟨_, rfl⟩
    obtain ⟨d2, hd2⟩ : ∃ d, Int.tdiv p2 65536 = d := ⟨_, rfl⟩
    obtain ⟨d3, hd3⟩ : ∃ d, Int.tdiv p3 65536 = d := ⟨_, rfl⟩
    rw [hd1] at hy1
    rw [hd2] at hy2
    rw [hd3] at hy3
    obtain ⟨b11, b12, b13, b14⟩ := b1
    obtain ⟨b21, b22, b23, b24⟩ := b2
    obtain ⟨b31, b32, b33, b34⟩ := b3
    have g1 : 0 ≤ d1 := by omega
    have g2 : 0 ≤ d2 := by omega
    have g3 : 0 ≤ d3 := by omega
    have g4 : d1 ≤ 84941200 := by omega
    have g5 : d2 ≤ 326341200 := by omega
    have g6 : d3 ≤ 1073741824 := by omega
    have hy1' : 241400000 + d1 = y1 := hy1.symm
    have hy2' : 747400624 + d2 = y2 := hy2.symm
    have hy3' : 1073741824 + d3 = y3 := hy3.symm
    clear hy1 hy2 hy3
    refine wp_loop_rounds 4 ?_
    rw [rounds_succ]
    go_wp2
    rw [rounds_succ]
    go_wp2
    rw [rounds_succ]
    go_wp2
    rw [rounds_succ]
    have n1 : 0 ≤ -q1 := by omega
    have n2 : -q1 < 64 := by omega
    go_wp2
    go_ret
    rw [hR.out]
    exact ⟨rfl, HB.out 0⟩
end Go.Proofs.Ytjcfhgpaipbedaa.St
