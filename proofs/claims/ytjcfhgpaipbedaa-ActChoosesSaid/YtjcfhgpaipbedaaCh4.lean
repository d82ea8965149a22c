/- act.Choose's sort. -/
import Derived.Test.YtjcfhgpaipbedaaCh1
namespace Go.Proofs.Ytjcfhgpaipbedaa.Ch
set_option linter.unusedVariables false
open Go.Proofs Go.Shelf Go.RowKit Go.Lib Go.Sort Go.Proofs.YtjcfhgpaipbedaaW.PrintWords Go.Proofs.Ytjcfhgpaipbedaa.St
/-- 0, 1, 2 .. -/
def rangeZ (n : Nat) : List Int := (List.range n).map fun j : Nat => (j : Int)
theorem rangeZ_len (n : Nat) : (rangeZ n).length = n := by simp [rangeZ]
theorem rangeZ_succ (n : Nat) : rangeZ (n + 1) = rangeZ n ++ [(n : Int)] := by simp [rangeZ, List.range_succ]
theorem reads_n {k : IntKind} {w : World} {A0 : Option Addr} {n : Nat} {l0 : List Int} (hr0 : Kd.C (Kd.int k) w A0 n l0) : ∀ i : Nat, i < n → ∃ ad, A0 = some ad ∧ w.cell? (ad.add i) = some (.int k (l0.getD i 0)) := by
  intro i hi
  obtain ⟨ad, c, e, _, hK, hc0⟩ := Kd.C_get hr0 0 (i : Int) (by omega) (by omega)
  have hK' : c = [.int k (l0.getD i 0)] := by rw [Int.toNat_natCast] at hK; exact hK
  subst hK'
  have h := hc0 0 _ rfl
  rw [Int.toNat_natCast] at h
  exact ⟨ad, e, by rw [show i * (Kd.int k).sz + 0 = i by show i * 1 + 0 = i; omega] at h; exact h⟩
theorem sort_c {W wr : World} {bx b cap n : Nat} {A : Option Addr} {c : Nat} {L : List Int} (hn : L.length = n) (h0 : 0 < n) (hm : n ≤ 17592186044416)
    (hbox : W.heap[bx]? = some (.cells #[.slice A L.length c] 38 (0, 0))) (hC : Kd.C (Kd.int .i64) W A L.length L) (hB : Below W.heap.size W wr)
    (hown : wr.ownsRow W.heap.size 3 1 (.slice (some ⟨b, 0, none⟩) n cap) n (nums .i64 (rangeZ n))) :
    Calls Try.prog 36 #[.slice (some ⟨b, 0, none⟩) n cap, .func (.func 37) #[] #[.pointer (some ⟨bx, 0, none⟩)]] wr fun e w' =>
      e = .returned (.tuple #[]) ∧ w'.ownsRow W.heap.size 3 1 (.slice (some ⟨b, 0, none⟩) n cap) n (nums .i64 (orderL L)) ∧ Below W.heap.size W w' := by
  cases n with
  | zero => omega
  | succ m =>
  have hbge : W.heap.size ≤ b := own_base hown b rfl
  have hblt : b < wr.heap.size := own_lt hown b rfl
  have hrow : Row1 (encF m) wr b 0 (row0 m) := ⟨fun _ => rfl, fun j hj => by
    rw [size_row0] at hj
    rw [row0_at m j hj, Nat.zero_add]
    refine ⟨?_, hown.frozenAt j⟩
    rw [hown.cellAt j (by omega)]
    simp [nums, rangeZ, hj, encF], hblt⟩
  have eg : ∀ args w, (callFunc 37 args).run Try.prog w = .ok (.enter 37 args) w := enters_of Try.func37 (by kernel_rfl) rfl
  have h := sortStable_calls (encF m) (fun x y : Fin (m + 1) => cmpI (L.getD y.val 0) (L.getD x.val 0)) 37 #[.pointer (some ⟨bx, 0, none⟩)] b 0 cap (row0 m) wr eg (by
    intro k os dk hdk x y
    have hS : Below W.heap.size W (sortWorld (encF m) wr b 0 k dk os) := hB.grown (sortWorld_grown (encF m) wr b k dk os) hB.size (fun j hj => by injection hj with hj; omega)
    have hCS := reads_n (Kd.C_below hC hS)
    obtain ⟨ad, e, hx⟩ := hCS x.val (by have := x.isLt; omega)
    obtain ⟨ad', e', hy⟩ := hCS y.val (by have := y.isLt; omega)
    obtain rfl : ad = ad' := by rw [e] at e'; injection e'
    have hb2 : (sortWorld (encF m) wr b 0 k dk os).cell? ⟨bx, 0, none⟩ = some (.slice (some ad) L.length c) := by
      rw [← e]
      have hl := (Array.getElem?_eq_some_iff.1 hbox).1
      rw [cell_of_row _ bx 0 _ _ (0, 0) ((hS.block bx hl).trans hbox)]
      rfl
    exact choose1_calls bx ad L.length c x.val y.val _ _ _ hb2 (by have := x.isLt; omega) (by have := y.isLt; omega) hx hy) hrow (by rw [size_row0]; omega)
  rw [size_row0] at h
  refine h.mono ?_
  rintro e w' ⟨rfl, k, os, rfl⟩
  have hsz : (stable (ltOf fun x y : Fin (m + 1) => cmpI (L.getD y.val 0) (L.getD x.val 0)) (row0 m)).size = m + 1 := by rw [size_stable, size_row0]
  refine ⟨rfl, ?_, hB.grown (sortWorld_grown (encF m) wr b k _ os) hB.size (fun j hj => by injection hj with hj; omega)⟩
  have ho := sortWorld_own (encF m) wr b k _ os hown hsz
  have e0 : orderL L = (stable (ltOf fun x y : Fin (m + 1) => cmpI (L.getD y.val 0) (L.getD x.val 0)) (row0 m)).toList.map fun x => (x.val : Int) := by
    unfold orderL
    rw [hn]
    rfl
  rw [e0]
  have e1 : ∀ d : List (Fin (m + 1)), nums .i64 (d.map fun x => (x.val : Int)) = d.map (encF m) := fun d => by simp [nums, encF]
  rw [e1]
  exact ho
end Go.Proofs.Ytjcfhgpaipbedaa.Ch
