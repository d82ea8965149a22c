/- rank.Order. -/
import Derived.Test.YtfegaffcalpmbaaRank2
namespace Go.Proofs.Ytfegaffcalpmbaa.St
open Go.Proofs Go.Shelf Go.RowKit Go.Lib Go.Sort Go.Proofs.YtfegaffcalpmbaaW.PrintWords

set_option maxHeartbeats 1000000 in
set_option maxRecDepth 1000000 in
theorem order_calls (A0 : Option Addr) (c0 : Nat) (l0 : List Int) (w : World) (hr0 : Kd.C (Kd.int .i64) w A0 l0.length l0) (hn : l0.length ≤ 17592186044416) :
    Calls Try.prog 14 #[.slice A0 l0.length c0] w fun e w' => ∃ v, e = .returned v ∧ Kd.R (Kd.int .i64) 3 w' w.heap.size (fun _ => True) v (orderL l0) ∧ Below w.heap.size w w' := by
  have mixed : Try.prog.follows .mixedOrders = true := by kernel_rfl
  have hb1 : Below w.heap.size w (w.alloc (.cells #[.slice A0 l0.length c0] 22)) := by
    refine ⟨rfl, rfl, rfl, by simp, fun k hk => ?_⟩
    show (w.heap.push _)[k]? = _
    rw [Array.getElem?_push]
    simp; omega
  have hbox : (w.alloc (.cells #[.slice A0 l0.length c0] 22)).cell? ⟨w.heap.size, 0, none⟩ = some (.slice A0 l0.length c0) := by
    unfold World.cell?
    have e : (w.alloc (.cells #[.slice A0 l0.length c0] 22)).heap[w.heap.size]? = some (.cells #[.slice A0 l0.length c0] 22) := by
      show (w.heap.push _)[w.heap.size]? = _
      simp
    rw [e]
    rfl
  have hcmp : ∀ W, Below (w.alloc (.cells #[.slice A0 l0.length c0] 22)).heap.size (w.alloc (.cells #[.slice A0 l0.length c0] 22)) W → ∀ x y : Nat, x < l0.length → y < l0.length →
      Calls Try.prog 41 (#[.int .i64 x, .int .i64 y] ++ #[.pointer (some ⟨w.heap.size, 0, none⟩)]) W fun e w' => e = .returned (.int .i64 (cmpI (l0.getD y 0) (l0.getD x 0))) ∧ ∃ q os, w' = grow (W.drewN q) os := by
    intro W hW x y hx hy
    have hlt : w.heap.size < (w.alloc (.cells #[.slice A0 l0.length c0] 22)).heap.size := by simp
    have get : ∀ i : Nat, i < l0.length → ∃ ad, A0 = some ad ∧ W.cell? (ad.add i) = some (.int .i64 (l0.getD i 0)) := by
      intro i hi
      obtain ⟨ad, c, e, _, hK, hc0⟩ := Kd.C_get (Kd.C_below hr0 (hb1.trans (hW.mono (Nat.le_of_lt hlt)))) 0 (i : Int) (by omega) (by omega)
      have hK' : c = [.int .i64 (l0.getD i 0)] := by rw [Int.toNat_natCast] at hK; exact hK
      subst hK'
      have h := hc0 0 _ rfl
      rw [Int.toNat_natCast] at h
      exact ⟨ad, e, by rw [show i * (Kd.int .i64).sz + 0 = i by show i * 1 + 0 = i; omega] at h; exact h⟩
    obtain ⟨ad, e, hx1⟩ := get x hx
    obtain ⟨ad', e', hy1⟩ := get y hy
    obtain rfl : ad = ad' := by rw [e] at e'; injection e'
    have hb : W.cell? ⟨w.heap.size, 0, none⟩ = some (.slice (some ad) l0.length c0) := by
      rw [← e, ← hbox]
      unfold World.cell?
      rw [hW.block w.heap.size hlt]
    exact order1_calls w.heap.size ad l0.length c0 x y _ _ W hb hx hy hx1 hy1
  have eg : ∀ args w, (callFunc 41 args).run Try.prog w = .ok (.enter 41 args) w := enters_of Try.func41 (by kernel_rfl) rfl
  have hs := sorted_calls (fun x y => cmpI (l0.getD y 0) (l0.getD x 0)) 41 #[.pointer (some ⟨w.heap.size, 0, none⟩)] l0.length _ hn eg hcmp
  have HB : Hid (w.heap.size ≤ (w.alloc (.cells #[.slice A0 l0.length c0] 22)).heap.size) := by show _ ≤ _; simp
  have HS : Aside (Calls Try.prog 40 #[.int .i64 (l0.length : Int), .func (.func 41) #[] #[.pointer (some ⟨w.heap.size, 0, none⟩)]] (w.alloc (.cells #[.slice A0 l0.length c0] 22)) fun e w' => ∃ v, e = .returned v ∧ Kd.R (Kd.int .i64) 3 w' (w.alloc (.cells #[.slice A0 l0.length c0] 22)).heap.size (fun _ => True) v (places (fun x y => cmpI (l0.getD y 0) (l0.getD x 0)) l0.length) ∧ Below (w.alloc (.cells #[.slice A0 l0.length c0] 22)).heap.size (w.alloc (.cells #[.slice A0 l0.length c0] 22)) w') := hs
  have H1 : Hid (Below w.heap.size w (w.alloc (.cells #[.slice A0 l0.length c0] 22))) := hb1
  clear hs hcmp hb1 eg
  go_enter Try.func14, Try.ntmps14
  go_wp2_with fail
  ((with_reducible refine HS.out.mono ?_))
  rintro e' w2 ⟨v, rfl, h1, h2⟩
  go_wp2
  refine bodyPost_ret (results_tmp rfl _ _ _) rfl ?_
  exact ⟨_, rfl, Kd.R_lower h1 HB.out, H1.out.trans (h2.mono HB.out)⟩
end Go.Proofs.Ytfegaffcalpmbaa.St
