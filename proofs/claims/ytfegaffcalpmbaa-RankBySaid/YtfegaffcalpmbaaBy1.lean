/- rank.By at things: the order that is handed in, and the comparator over it. -/
import Derived.Test.YtfegaffcalpmbaaRank2
namespace Go.Proofs.Ytfegaffcalpmbaa.St
open Go.Proofs Go.Shelf Go.RowKit Go.Lib Go.Sort Go.Proofs.YtfegaffcalpmbaaW.PrintWords
/-- The law's order: by half the key. -/
def aheadB (down : Bool) (x y : Int) : Bool := if down then decide (y / 2 < x / 2) else decide (x / 2 < y / 2)
theorem two_grow (w : World) (o p : Obj) : (w.alloc o).alloc p = grow (w.drewN 0) #[o, p] := by
  rw [alloc_eq_grow, alloc_eq_grow, grow_grow]
  rfl
set_option maxRecDepth 1000000 in
theorem ahead_calls (dB : Nat) (down : Bool) (k1 k2 : Int) (m1 m2 : ByteArray) (w : World) (hb : w.cell? ⟨dB, 0, none⟩ = some (.bool down)) :
    Calls Try.prog 20 #[.agg #[.int .i64 k1, .string m1], .agg #[.int .i64 k2, .string m2], .pointer (some ⟨dB, 0, none⟩)] w fun e w' => e = .returned (.bool (aheadB down k1 k2)) ∧ ∃ q os, w' = grow (w.drewN q) os := by
  have mixed : Try.prog.follows .mixedOrders = true := by kernel_rfl
  have lt : dB < w.heap.size := by
    unfold World.cell? at hb
    rcases Nat.lt_or_ge dB w.heap.size with h2 | h2
    · exact h2
    · rw [Array.getElem?_eq_none h2] at hb; cases hb
  have g0 : ∀ n os, (grow (w.drewN n) os).cell? ⟨dB, 0, none⟩ = some (.bool down) := by
    intro n os
    rw [cell?_grow (w.drewN n) os ⟨dB, 0, none⟩ lt]
    exact hb
  have g2 : ∀ o p, ((w.alloc o).alloc p).cell? ⟨dB, 0, none⟩ = some (.bool down) := fun o p => by rw [two_grow]; exact g0 0 #[o, p]
  clear lt g0
  go_enter Try.func20, Try.ntmps20
  cases down with
  | true =>
    go_wp2
    refine bodyPost_ret (results_tmp rfl _ _ _) rfl ?_
    exact ⟨rfl, 0, _, two_grow _ _ _⟩
  | false =>
    go_wp2
    refine bodyPost_ret (results_tmp rfl _ _ _) rfl ?_
    exact ⟨rfl, 0, _, two_grow _ _ _⟩
/-- What the comparator says. -/
def cfB (down : Bool) (x y : Int) : Int := if aheadB down x y then -1 else if aheadB down y x then 1 else 0
theorem eqfn (caps : Array Value) (w : World) : (binOp .eql 41 (.func (.func 20) #[] caps) .nilFunc).run Try.prog w = .ok (.bool false) w := by kernel_rfl
set_option maxRecDepth 1000000 in
set_option maxHeartbeats 1000000 in
theorem by1_calls (aB lB dB : Nat) (down : Bool) (ad : Addr) (n c i j : Nat) (ki kj : Int) (mi mj : ByteArray) (w : World) (hi : i < n) (hj : j < n)
    (ha : w.cell? ⟨aB, 0, none⟩ = some (.func (.func 20) #[] #[.pointer (some ⟨dB, 0, none⟩)])) (hl : w.cell? ⟨lB, 0, none⟩ = some (.slice (some ad) n c)) (hd : w.cell? ⟨dB, 0, none⟩ = some (.bool down))
    (i0 : w.cell? (ad.add (i * 2)) = some (.int .i64 ki)) (i1 : w.cell? ⟨(ad.add (i * 2)).block, (ad.add (i * 2)).off + 1, none⟩ = some (.string mi))
    (j0 : w.cell? (ad.add (j * 2)) = some (.int .i64 kj)) (j1 : w.cell? ⟨(ad.add (j * 2)).block, (ad.add (j * 2)).off + 1, none⟩ = some (.string mj)) :
    Calls Try.prog 45 (#[.int .i64 i, .int .i64 j] ++ #[.pointer (some ⟨aB, 0, none⟩), .pointer (some ⟨lB, 0, none⟩)]) w fun e w' => e = .returned (.int .i64 (cfB down ki kj)) ∧ ∃ q os, w' = grow (w.drewN q) os := by
  show Calls Try.prog 45 #[.int .i64 i, .int .i64 j, .pointer (some ⟨aB, 0, none⟩), .pointer (some ⟨lB, 0, none⟩)] w _
  have mixed : Try.prog.follows .mixedOrders = true := by kernel_rfl
  have lt : ∀ (a : Addr) v, w.cell? a = some v → a.block < w.heap.size := by
    intro a v h
    unfold World.cell? at h
    rcases Nat.lt_or_ge a.block w.heap.size with h2 | h2
    · exact h2
    · rw [Array.getElem?_eq_none h2] at h; cases h
  have g0 : ∀ (a : Addr) v, w.cell? a = some v → ∀ n os, (grow (w.drewN n) os).cell? a = some v := by
    intro a v h n os
    rw [cell?_grow (w.drewN n) os a (lt a v h)]
    exact h
  have la := g0 _ _ ha
  have ll := g0 _ _ hl
  have ld := g0 _ _ hd
  have li0 := g0 _ _ i0
  have li1 := g0 _ _ i1
  have lj0 := g0 _ _ j0
  have lj1 := g0 _ _ j1
  have pi : (0 : Int) ≤ (i : Int) := by omega
  have pj : (0 : Int) ≤ (j : Int) := by omega
  have bi : (i : Int) < (n : Int) := by omega
  have bj : (j : Int) < (n : Int) := by omega
  have eqq := eqfn #[.pointer (some ⟨dB, 0, none⟩)]
  obtain ⟨t1, e1⟩ : ∃ t, t = aheadB down ki kj := ⟨_, rfl⟩
  obtain ⟨t2, e2⟩ : ∃ t, t = aheadB down kj ki := ⟨_, rfl⟩
  have H1 : Aside (∀ W : World, W.cell? ⟨dB, 0, none⟩ = some (.bool down) → Calls Try.prog 20 #[.agg #[.int .i64 ki, .string mi], .agg #[.int .i64 kj, .string mj], .pointer (some ⟨dB, 0, none⟩)] W fun e w' => e = .returned (.bool t1) ∧ ∃ q os, w' = grow (W.drewN q) os) := fun W hW => by rw [e1]; exact ahead_calls dB down ki kj mi mj W hW
  have H2 : Aside (∀ W : World, W.cell? ⟨dB, 0, none⟩ = some (.bool down) → Calls Try.prog 20 #[.agg #[.int .i64 kj, .string mj], .agg #[.int .i64 ki, .string mi], .pointer (some ⟨dB, 0, none⟩)] W fun e w' => e = .returned (.bool t2) ∧ ∃ q os, w' = grow (W.drewN q) os) := fun W hW => by rw [e2]; exact ahead_calls dB down kj ki mj mi W hW
  have HC : Hid (cfB down ki kj = if t1 then -1 else if t2 then 1 else 0) := by show _ = _; rw [e1, e2]; rfl
  have LD : Aside (∀ n os, (grow (w.drewN n) os).cell? ⟨dB, 0, none⟩ = some (.bool down)) := ld
  clear g0 lt e1 e2 hd ld
  go_enter Try.func45, Try.ntmps45
  cases t1 with
  | true =>
    go_wp2_with fail
    go_quiet_grown (refine Calls.grown_of (H1.out _ (LD.out _ _)))
    go_wp2_with fail
    refine bodyPost_ret (results_tmp rfl _ _ _) rfl ?_
    exact ⟨by rw [HC.out]; rfl, _, _, rfl⟩
  | false =>
    go_wp2_with fail
    go_quiet_grown (refine Calls.grown_of (H1.out _ (LD.out _ _)))
    have hg : ∀ m os, grow ((grow (w.drewN nq) osq).drewN m) os = grow (w.drewN (nq + m)) (osq ++ os) := fun m os => by
      show grow (grow ((w.drewN nq).drewN m) osq) os = _
      rw [grow_grow, World.drewN_drewN]
    have la2 : ∀ m os, (grow ((grow (w.drewN nq) osq).drewN m) os).cell? ⟨aB, 0, none⟩ = some (.func (.func 20) #[] #[.pointer (some ⟨dB, 0, none⟩)]) := fun m os => by rw [hg]; exact la _ _
    have ll2 : ∀ m os, (grow ((grow (w.drewN nq) osq).drewN m) os).cell? ⟨lB, 0, none⟩ = some (.slice (some ad) n c) := fun m os => by rw [hg]; exact ll _ _
    have li02 : ∀ m os, (grow ((grow (w.drewN nq) osq).drewN m) os).cell? (ad.add (i * 2)) = some (.int .i64 ki) := fun m os => by rw [hg]; exact li0 _ _
    have li12 : ∀ m os, (grow ((grow (w.drewN nq) osq).drewN m) os).cell? ⟨(ad.add (i * 2)).block, (ad.add (i * 2)).off + 1, none⟩ = some (.string mi) := fun m os => by rw [hg]; exact li1 _ _
    have lj02 : ∀ m os, (grow ((grow (w.drewN nq) osq).drewN m) os).cell? (ad.add (j * 2)) = some (.int .i64 kj) := fun m os => by rw [hg]; exact lj0 _ _
    have lj12 : ∀ m os, (grow ((grow (w.drewN nq) osq).drewN m) os).cell? ⟨(ad.add (j * 2)).block, (ad.add (j * 2)).off + 1, none⟩ = some (.string mj) := fun m os => by rw [hg]; exact lj1 _ _
    have LD2 : Aside (∀ m os, (grow ((grow (w.drewN nq) osq).drewN m) os).cell? ⟨dB, 0, none⟩ = some (.bool down)) := fun m os => by rw [hg]; exact LD.out _ _
    have HG : Aside (∀ m os, grow ((grow (w.drewN nq) osq).drewN m) os = grow (w.drewN (nq + m)) (osq ++ os)) := hg
    clear hg
    cases t2 with
    | true =>
      go_wp2_with fail
      go_quiet_grown (refine Calls.grown_of (H2.out _ (LD2.out _ _)))
      go_wp2_with fail
      refine bodyPost_ret (results_tmp rfl _ _ _) rfl ?_
      exact ⟨by rw [HC.out]; rfl, _, _, HG.out _ _⟩
    | false =>
      go_wp2_with fail
      go_quiet_grown (refine Calls.grown_of (H2.out _ (LD2.out _ _)))
      go_wp2_with fail
      refine bodyPost_ret (results_tmp rfl _ _ _) rfl ?_
      exact ⟨by rw [HC.out]; rfl, _, _, HG.out _ _⟩
end Go.Proofs.Ytfegaffcalpmbaa.St
