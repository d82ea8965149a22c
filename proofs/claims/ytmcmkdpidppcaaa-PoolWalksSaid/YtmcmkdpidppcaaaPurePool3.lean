/- The document's list of places: Give, Get, Set (stands on the printed text with r05_Give). -/
import Derived.Test.YtmcmkdpidppcaaaA3
import Derived.Test.YtmcmkdpidppcaaaPurePool2
namespace Go.Proofs.Ytmcmkdpidppcaaa.Pure
set_option linter.unusedVariables false
open Go.RowKit Go.Proofs.YtmcmkdpidppcaaaW.PrintWords Go.Proofs.YtmcmkdpidppcaaaW.PrintLast Go.Proofs.YtmcmkdpidppcaaaW.PrintMore Go.Proofs.Ytmcmkdpidppcaaa.A Go.Proofs.Ytmcmkdpidppcaaa.St
theorem give_no_ref (L : List S66) (i : Int) (c : hasL (toS L) i = false) : r05_Give.f L i = some (L, 0, 51) := by
  unfold r05_Give.f
  rw [taken_is, c]
  rfl
theorem give_yes_ref (L : List S66) (k : Nat) (hL : L.length ≤ 65536) (hk : k < L.length) (c : hasL (toS L) (k : Int) = true) : r05_Give.f L (k : Int) = some (L.set k ⟨false, 0⟩, ((toS L).getD k (false, 0)).2, 0) := by
  unfold r05_Give.f
  rw [taken_is, c]
  simp only [Option.bind_some, if_true]
  rw [put_is L k false 0 hk hL]
  simp only [Option.bind_some]
  rw [if_pos (by omega), if_pos (by omega), (rd_at L k hk).2]
theorem get_ref (L : List S66) (i : Int) : r05_Get.f L i = some (if hasL (toS L) i then ((toS L).getD i.toNat (false, 0)).2 else 0, hasL (toS L) i) := by
  unfold r05_Get.f
  rw [taken_is]
  cases c : hasL (toS L) i with
  | false => rfl
  | true =>
    obtain ⟨h0, h1, _⟩ := hasL_in c
    rw [toS_len] at h1
    obtain ⟨k, rfl⟩ : ∃ k : Nat, i = (k : Int) := ⟨i.toNat, by omega⟩
    simp only [Option.bind_some, if_true]
    rw [if_pos h0, if_pos h1, (rd_at L k (by omega)).2, Int.toNat_natCast]
theorem set_no_ref (L : List S66) (i v : Int) (c : hasL (toS L) i = false) : r05_Set.f L i v = some (L, 51) := by
  unfold r05_Set.f
  rw [taken_is, c]
  rfl
theorem set_yes_ref (L : List S66) (k : Nat) (v : Int) (hL : L.length ≤ 65536) (hk : k < L.length) (c : hasL (toS L) (k : Int) = true) : r05_Set.f L (k : Int) v = some (L.set k ⟨true, v⟩, 0) := by
  unfold r05_Set.f
  rw [taken_is, c]
  simp only [Option.bind_some, if_true]
  rw [put_is L k true v hk hL]
  rfl
end Go.Proofs.Ytmcmkdpidppcaaa.Pure
