/- PoolWalks: out of range; both. -/
import Derived.Test.YtmcmkdpidppcaaaPoolR
namespace Go.Proofs.Ytmcmkdpidppcaaa.St
open Go.Proofs Go.RowKit Go.Shelf Go.Proofs.YtmcmkdpidppcaaaW.PrintWords Go.Proofs.YtmcmkdpidppcaaaW.PrintLast Go.Proofs.YtmcmkdpidppcaaaW.PrintMore Go.Proofs.Ytmcmkdpidppcaaa.A Go.Proofs.Ytmcmkdpidppcaaa.Pure
attribute [local go_sem] Oper.semAt_some
set_option maxRecDepth 100000 in
set_option maxHeartbeats 4000000 in
theorem begun_no2 (W : World) (n : Int) (hn : n < 1 ∨ 65536 < n) : Calls Try.prog 17 #[.int .i64 n] W fun e W' => ∃ lv, (∃ A c, lv = .slice A 0 c) ∧ e = .returned (.tuple #[.pointer none, lv, .bool false, .bool true]) ∧ Below W.heap.size W W' := by
  obtain ⟨K, hK⟩ := new_ref_no n hn
  have hk0 := hK K (Nat.le_refl _)
  have hnew := new_no n hn W
  have eqn : ∀ w, (binOp .eql 45 (.pointer none) (.pointer none)).run Try.prog w = .ok (.bool true) w := fun _ => by kernel_rfl
  clear hn hK
  go_enter Try.func17, Try.ntmps17
  go_wp2_with (first
    | (go_at_call 29; refine hnew.mono ?_; rintro e w9 ⟨rfl, h9⟩; have h8 := h9.symm; subst h8; clear h9 hnew)
    | (go_at_call 11; refine (r05_New.calls K n _ _ W hk0).mono ?_; rintro e w2 ⟨lv, rfl, hR, hB2⟩; have HSL := Aside0.mk (Kd.R_slice hR); have H2 := Aside0.mk (And.intro hR hB2); clear hR hB2)
    | (go_at_call 12; refine (awake_calls w2).mono ?_; rintro e w3 ⟨rfl, hB3⟩; have H3 := Aside0.mk hB3; clear hB3))
  (try simp only [Exit.inBlock, Exit.then])
  refine bodyPost_ret (results_tmp4 rfl _ _ _) rfl ?_
  exact ⟨lv, HSL.out, rfl, H2.out.2.trans (H3.out.mono H2.out.2.size)⟩
set_option maxRecDepth 100000 in
set_option maxHeartbeats 1000000 in
theorem walks_no (n : Int) (hn : n < 1 ∨ 65536 < n) (v : Value) (leave : Int) (w : World) :
    CallsIn Fence.wide 6 Try.prog 7 #[.int .i64 n, v, .int .i64 leave] w fun e w' => e = .returned (.bool true) ∧ Below w.heap.size w w' := by
  have hb := begun_no2 ((w.alloc (.cells #[.int .i64 leave] 3)).alloc (.cells #[.bool false] 4)) n hn
  have hs1 : (w.alloc (.cells #[.int .i64 leave] 3)).heap.size = w.heap.size + 1 := World.size_alloc _ _
  have hs2 : ((w.alloc (.cells #[.int .i64 leave] 3)).alloc (.cells #[.bool false] 4)).heap.size = w.heap.size + 2 := by rw [World.size_alloc, hs1]
  rw [hs2] at hb
  have hbr : Boxed ((w.alloc (.cells #[.int .i64 leave] 3)).alloc (.cells #[.bool false] 4)) (w.heap.size + 1) 4 (.bool false) := by
    have h := Boxed.new (w.alloc (.cells #[.int .i64 leave] 3)) 4 (.bool false)
    rw [hs1] at h
    exact h
  clear hn
  refine callsIn_of_wp_marks Try.func7 rfl trivial ?_ rfl
  simp only [Try.ntmps7, List.size_toArray, List.length_cons, List.length_nil, Nat.reduceAdd, Nat.reduceSub, Array.replicate_succ, Array.replicate_zero, List.push_toArray, List.append_toArray, List.nil_append, List.cons_append]
  gi_wp2_with (refine ⟨trivial, ?_⟩; gi_at_call 17; refine (callsIn_wide.2 hb).mono ?_; rintro e w1 ⟨lv, ⟨Al, cl, rfl⟩, rfl, hB1⟩; have bR : Boxed w1 (w.heap.size + 1) 4 (.bool false) := (hB1.block (w.heap.size + 1) (by omega)).trans hbr; have hcR : ∀ o p, ((w1.alloc o).alloc p).cell? ⟨w.heap.size + 1, 0, none⟩ = some (.bool false) := (fun o p => ((bR.alloc o).alloc p).cell); have hfR : ∀ o p, ((w1.alloc o).alloc p).frozen? ⟨w.heap.size + 1, 0, none⟩ = false := (fun o p => ((bR.alloc o).alloc p).frozen); have H1 := Aside0.mk hB1; clear hB1 hb bR)
  have hsz := H1.out.size
  have hB0 : Below w.heap.size w w1 := (below_alloc (below_alloc (Below.refl _ w) _) _).trans (H1.out.mono (by omega))
  have hc5 := World.cell?_setCell_same' ((w1.alloc (.cells #[.pointer none] 45)).alloc (.cells #[.slice Al 0 cl] 32)) ⟨w.heap.size + 1, 0, none⟩ (.bool true) (by rw [hcR]; rfl)
  refine ⟨.bool true, ?_, rfl, (below_alloc (below_alloc hB0 _) _).setCell (p := ⟨w.heap.size + 1, 0, none⟩) (show w.heap.size ≤ w.heap.size + 1 by omega) _⟩
  simp [results, Try.f7, go_sem, hc5]
theorem walks_calls (n : Int) (A : Option Addr) (c : Nat) (ops : List (Int × Int × Int)) (leave : Int) (w : World) (hO : OpRow w A ops) (hl : ops.length ≤ 4611686018427387904) :
    Calls Try.prog 7 #[.int .i64 n, .slice A ops.length c, .int .i64 leave] w fun e w' => e = .returned (.bool true) ∧ Below w.heap.size w w' := by
  refine (callsIn_wide (n := 6)).1 ?_
  by_cases h : 1 ≤ n ∧ n ≤ 65536
  · obtain ⟨k, rfl⟩ : ∃ k : Nat, n = (k : Int) := ⟨n.toNat, by omega⟩
    exact walks_yes k (by omega) A c ops leave w hO hl
  · exact walks_no n (by omega) _ leave w
end Go.Proofs.Ytmcmkdpidppcaaa.St
