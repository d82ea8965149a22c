/- whole, in plain words: where a walk over the taken places stands. -/
import Derived.Test.YtmcmkdpidppcaaaPurePool5
namespace Go.Proofs.Ytmcmkdpidppcaaa.St
set_option linter.unusedVariables false
open Go.RowKit Go.Proofs.YtmcmkdpidppcaaaW.PrintWords Go.Proofs.YtmcmkdpidppcaaaW.PrintLast Go.Proofs.YtmcmkdpidppcaaaW.PrintMore Go.Proofs.Ytmcmkdpidppcaaa.A Go.Proofs.Ytmcmkdpidppcaaa.Pure
def skipF (S : List (Bool × Int)) : Nat → Nat → Nat
  | 0, a => a
  | d + 1, a => if (S.getD a (false, 0)).1 = true then a else skipF S d (a + 1)
/-- The first taken place at a or behind it; the length, where there is none. -/
def skip (S : List (Bool × Int)) (a : Nat) : Nat := skipF S (S.length - a) a
section
variable {S : List (Bool × Int)} {a : Nat}
theorem skip_here (h : (S.getD a (false, 0)).1 = true) : skip S a = a := by
  unfold skip
  cases S.length - a with
  | zero => rfl
  | succ d => rw [skipF, if_pos h]
theorem skip_next (ha : a < S.length) (h : (S.getD a (false, 0)).1 = false) : skip S a = skip S (a + 1) := by
  unfold skip
  rw [show S.length - a = (S.length - (a + 1)) + 1 by omega, skipF, if_neg (by rw [h]; decide)]
theorem skip_end (ha : S.length ≤ a) : skip S a = a := by
  unfold skip
  rw [show S.length - a = 0 by omega, skipF]
theorem skip_far (k : Nat) (hk : k ≤ S.length) : ∀ (d a : Nat), k - a = d → a ≤ k → (∀ j, a ≤ j → j < k → (S.getD j (false, 0)).1 = false) → skip S a = skip S k
  | 0, a, hd, ha, _ => by rw [show a = k by omega]
  | d + 1, a, hd, ha, h => by
    rw [skip_next (by omega) (h a (Nat.le_refl _) (by omega))]
    exact skip_far k hk d (a + 1) (by omega) (by omega) (fun j h1 h2 => h j (by omega) h2)
end
def stepW (S : List (Bool × Int)) (a : Nat) (x : Int × Int) : Option Nat := if skip S a < S.length ∧ x.1 = (skip S a : Int) ∧ x.2 = (S.getD (skip S a) (false, 0)).2 then some (skip S a + 1) else none
def runW (S : List (Bool × Int)) (pre : List (Int × Int)) : Option Nat := pre.foldl (fun o x => o.bind fun a => stepW S a x) (some 0)
theorem runW_snoc (S : List (Bool × Int)) (pre : List (Int × Int)) (x : Int × Int) : runW S (pre ++ [x]) = (runW S pre).bind fun a => stepW S a x := by
  unfold runW
  rw [List.foldl_append]
  rfl
theorem runW_taken (S : List (Bool × Int)) : ∀ k, k ≤ S.length → ∃ a, runW S (takenTo S k) = some a ∧ a ≤ k ∧ ∀ j, a ≤ j → j < k → (S.getD j (false, 0)).1 = false
  | 0, _ => ⟨0, rfl, Nat.le_refl _, fun j h1 h2 => by omega⟩
  | k + 1, hk => by
    obtain ⟨a, h1, h2, h3⟩ := runW_taken S k (by omega)
    cases e : (S.getD k (false, 0)).1 with
    | true =>
      have hs : skip S a = k := (skip_far k (by omega) _ a rfl h2 h3).trans (skip_here e)
      refine ⟨k + 1, ?_, Nat.le_refl _, fun j g1 g2 => by omega⟩
      rw [takenTo_yes S k e, runW_snoc, h1]
      show stepW S a _ = _
      unfold stepW
      rw [hs, if_pos ⟨by omega, rfl, rfl⟩]
    | false =>
      refine ⟨a, by rw [takenTo_no S k e, h1], by omega, fun j g1 g2 => ?_⟩
      by_cases c : j = k
      · rw [c]; exact e
      · exact h3 j g1 (by omega)
/-- How a list of places lies. -/
theorem list_cells {w : World} {n0 : Nat} {P : Nat → Prop} {lv : Value} {L : List S66} (h : Kd.R k66 66 w n0 P lv L) (hL : 0 < L.length) :
    ∃ gl c, lv = .slice (some ⟨gl, 0, none⟩) (toS L).length c ∧ n0 ≤ gl ∧ gl < w.heap.size ∧ L.length ≤ c ∧ ∀ j, j < (toS L).length → w.cell? ⟨gl, j * 2, none⟩ = some (.bool ((toS L).getD j (false, 0)).1) ∧ w.cell? ⟨gl, j * 2 + 1, none⟩ = some (.int .i64 ((toS L).getD j (false, 0)).2) := by
  obtain ⟨gl, c, rfl, hb, hlt, cells, hc⟩ := Kd.R_form h hL
  obtain ⟨_, hle, hC⟩ := Kd.R_reads' h
  refine ⟨gl, c, by rw [toS_len], hb, hlt, hle, fun j hj => ?_⟩
  rw [toS_len] at hj
  obtain ⟨ad, e, h0, h1⟩ := at_T66 hC (j : Int) (by omega) (by omega)
  injection e with e
  subst e
  obtain ⟨r0, r1⟩ := rd_at L j hj
  rw [r0] at h0
  rw [r1] at h1
  rw [Int.toNat_natCast] at h0 h1
  have e2 : (⟨gl, 0, none⟩ : Addr).add (j * 2) = ⟨gl, j * 2, none⟩ := by unfold Addr.add; split <;> simp_all
  rw [e2] at h0 h1
  exact ⟨h0, h1⟩
end Go.Proofs.Ytmcmkdpidppcaaa.St
