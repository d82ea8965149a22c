/- QueueSorts: the law's walk, joined. -/
import Derived.Test.YtgolghimefageaaQSort3
import Derived.Test.YtgolghimefageaaQSort4
import Derived.Test.YtgolghimefageaaQSort5
namespace Go.Proofs.Ytgolghimefageaa.QS
open Go.Proofs Go.RowKit Go.Shelf Go.Lib Go.Maps Go.Proofs.YtgolghimefageaaW.PrintWords Go.Proofs.YtgolghimefageaaW.PrintLast Go.Proofs.YtgolghimefageaaW.PrintMore Go.Proofs.Ytgolghimefageaa.St
theorem sorts_calls (A : Option Addr) (c : Nat) (keys : List ByteArray) (last : Bool) (w : World) (hO : KeyRow w A keys.length keys) (hc : keys.length ≤ c) :
    Calls Try.prog 3 #[.slice A keys.length c, .bool last] w fun e w' => e = .returned (.bool true) ∧ Below w.heap.size w w' := by
  by_cases h : keys.length ≤ 65536
  · cases last with
    | false => exact sorts_first A c keys w hO h
    | true => exact sorts_last A c keys w hO h
  · have hl : (keys.take 65536).length = 65536 := by rw [List.length_take]; omega
    have hO2 : KeyRow w A (keys.take 65536).length (keys.take 65536) := by
      rw [hl]
      intro j hj
      obtain ⟨ad, e, h0⟩ := hO j (by omega)
      refine ⟨ad, e, ?_⟩
      rw [h0, List.getD_eq_getElem?_getD, List.getD_eq_getElem?_getD, List.getElem?_take, if_pos hj]
    cases last with
    | false => exact sorts_long A c keys.length (keys.take 65536) w hO2 (by omega) ⟨by omega, hc⟩ hl
    | true => exact sorts_long_last A c keys.length (keys.take 65536) w hO2 (by omega) ⟨by omega, hc⟩ hl
end Go.Proofs.Ytgolghimefageaa.QS
