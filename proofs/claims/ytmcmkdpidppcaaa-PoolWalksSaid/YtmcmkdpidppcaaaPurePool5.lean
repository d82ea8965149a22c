/- The document's list of places: Used. -/
import Derived.Test.YtmcmkdpidppcaaaPurePool2
namespace Go.Proofs.Ytmcmkdpidppcaaa.Pure
set_option linter.unusedVariables false
open Go.RowKit Go.Proofs.YtmcmkdpidppcaaaW.PrintWords Go.Proofs.YtmcmkdpidppcaaaW.PrintLast Go.Proofs.YtmcmkdpidppcaaaW.PrintMore Go.Proofs.Ytmcmkdpidppcaaa.A Go.Proofs.Ytmcmkdpidppcaaa.St
theorem takenTo_le (S : List (Bool × Int)) (k : Nat) : (takenTo S k).length ≤ k := by
  unfold takenTo
  rw [List.length_map]
  have := List.length_filter_le (fun j : Nat => (S.getD j (false, 0)).1) (List.range k)
  rwa [List.length_range] at this
theorem used_go (L : List S66) (hL : L.length ≤ 65536) : ∀ (d i : Nat), L.length - i = d → i ≤ L.length → Ev (fun k => r05_Used.l0 k L ((takenTo (toS L) i).length : Int) (i : Int)) (((takenTo (toS L) L.length).length : Nat) : Int)
  | d, i, hd, hi => by
    refine Ev.step (fun k => by rw [r05_Used.l0]) ?_
    by_cases c : i < L.length
    · obtain ⟨d, rfl⟩ : ∃ e, d = e + 1 := ⟨d - 1, by omega⟩
      have hle := takenTo_le (toS L) i
      refine ev_pos (by omega) (ev_pos (by omega) ?_)
      have hgo := used_go L hL d (i + 1) (by omega) (by omega)
      cases e : ((toS L).getD i (false, 0)).1 with
      | true =>
        rw [takenTo_yes _ _ e, List.length_append, List.length_singleton] at hgo
        refine ev_pos (by rw [(rd_at L i c).1]; exact e) ?_
        rw [w1 i (by omega), w1 _ (by omega)]
        exact hgo
      | false =>
        rw [takenTo_no _ _ e] at hgo
        refine ev_neg (by rw [(rd_at L i c).1, e]; decide) ?_
        rw [w1 i (by omega)]
        exact hgo
    · obtain rfl : i = L.length := by omega
      exact ev_neg (by omega) (Ev.now _)
theorem used_ref (L : List S66) (hL : L.length ≤ 65536) : Ev (fun k => r05_Used.f k L) (((takenTo (toS L) L.length).length : Nat) : Int) := by
  unfold r05_Used.f
  exact used_go L hL L.length 0 (by omega) (Nat.zero_le _)
end Go.Proofs.Ytmcmkdpidppcaaa.Pure
