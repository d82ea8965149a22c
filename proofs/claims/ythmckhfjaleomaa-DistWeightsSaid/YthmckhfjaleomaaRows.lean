/-
  No cell of these rows narrows 'for every input' (looked for: loops, veiled, ifaces, maps, wideKeys, modest, calm, conditions, laid).
  DERIVED. THE GIVEN ROWS OF THIS SEAT. 10 by the template 'for every input the law returns true; each argument reads behind the call as it read before'; 0 by the template 'total and deterministic' (their statements: YthmckhfjaleomaaTotals.lean).
  GIVEN WITH THE SEED: the statements are not yours to turn. If you find one false, say at which input.
  Laid BY PROGRAM, IN A SANDBOX (cutbox-rows.mjs): the forced cells as the released guide's own fill.sh prints them over the translation c7820b81336706c4… (all of the seat's roots in one cut). By AI agents, Wed Nov 11 2026. No macro, syntax, notation, axiom, sorry.
-/
import Derived.Test.YthmckhfjaleomaaChecked
import GoSem.Claim
import GoSem.ClaimJoined
import GoSem.ClaimMapViews
import Derived.JoinedTies
import Derived.KernelRfl
namespace Go.Proofs.Ythmckhfjaleomaa
/- THE CELL 'sum', in the pinned program and in every row, IS THE sha256 OF THE DUMP (.gsa) THAT YthmckhfjaleomaaProg.lean LOADS. Nothing in Lean hashes anything: it is a label: what it is worth is what the hold of that sum in a sandbox is worth. -/
noncomputable def Try.pinned : Pinned := { name := "ythmckhfjaleomaa", sum := "c7820b81336706c46d6df51a901827b832e8141f4b16e7f0dabafec6c8328dd9", checked := Try.checked }
namespace Rows
def none {H : Type} : Left H := { results := [], args := [] }

/-- 'heraldlaw22.DistChecks': WHATEVER THE INPUT: true; the input reads as it did. -/
def distChecksSpec : ChangeSpec := { name := "distChecks", fn := fun _ => fun
  | [d1, d2] => { results := [.lit (.bool true)], args := [d1, d2] }
  | _ => none }
def distChecksRow : OpenClaim := { program := "ythmckhfjaleomaa", sum := "c7820b81336706c46d6df51a901827b832e8141f4b16e7f0dabafec6c8328dd9", func := "herald/heraldlaw22.DistChecks", spec := "distChecks", unfollowed := true, recurses := true, apart := false }
def DistChecksSaid : Prop := distChecksRow.holds Try.pinned (OpenSpec.ofChange distChecksSpec)

/-- ITS FALSE NEIGHBOUR: 'it returns false'. Refute it at one input. -/
def distChecksWrong : ChangeSpec := { name := "distChecks", fn := fun _ => fun
  | [d1, d2] => { results := [.lit (.bool false)], args := [d1, d2] }
  | _ => none }
def DistChecksWrongFalsely : Prop := distChecksRow.holds Try.pinned (OpenSpec.ofChange distChecksWrong)

/-- 'heraldlaw22.DistWeights': WHATEVER THE INPUT: true; the input reads as it did. -/
def distWeightsSpec : ChangeSpec := { name := "distWeights", fn := fun _ => fun
  | [d1, d2] => { results := [.lit (.bool true)], args := [d1, d2] }
  | _ => none }
def distWeightsRow : OpenClaim := { program := "ythmckhfjaleomaa", sum := "c7820b81336706c46d6df51a901827b832e8141f4b16e7f0dabafec6c8328dd9", func := "herald/heraldlaw22.DistWeights", spec := "distWeights", unfollowed := true, recurses := true, apart := false }
def DistWeightsSaid : Prop := distWeightsRow.holds Try.pinned (OpenSpec.ofChange distWeightsSpec)

/-- ITS FALSE NEIGHBOUR: 'it returns false'. Refute it at one input. -/
def distWeightsWrong : ChangeSpec := { name := "distWeights", fn := fun _ => fun
  | [d1, d2] => { results := [.lit (.bool false)], args := [d1, d2] }
  | _ => none }
def DistWeightsWrongFalsely : Prop := distWeightsRow.holds Try.pinned (OpenSpec.ofChange distWeightsWrong)

/-- 'heraldlaw22.DistSums': WHATEVER THE INPUT: true; the input reads as it did. -/
def distSumsSpec : ChangeSpec := { name := "distSums", fn := fun _ => fun
  | [d1, d2] => { results := [.lit (.bool true)], args := [d1, d2] }
  | _ => none }
def distSumsRow : OpenClaim := { program := "ythmckhfjaleomaa", sum := "c7820b81336706c46d6df51a901827b832e8141f4b16e7f0dabafec6c8328dd9", func := "herald/heraldlaw22.DistSums", spec := "distSums", unfollowed := true, recurses := true, apart := false }
def DistSumsSaid : Prop := distSumsRow.holds Try.pinned (OpenSpec.ofChange distSumsSpec)

/-- ITS FALSE NEIGHBOUR: 'it returns false'. Refute it at one input. -/
def distSumsWrong : ChangeSpec := { name := "distSums", fn := fun _ => fun
  | [d1, d2] => { results := [.lit (.bool false)], args := [d1, d2] }
  | _ => none }
def DistSumsWrongFalsely : Prop := distSumsRow.holds Try.pinned (OpenSpec.ofChange distSumsWrong)

/-- 'heraldlaw22.DistMoves': WHATEVER THE INPUT: true; the input reads as it did. -/
def distMovesSpec : ChangeSpec := { name := "distMoves", fn := fun _ => fun
  | [d1, d2, d3] => { results := [.lit (.bool true)], args := [d1, d2, d3] }
  | _ => none }
def distMovesRow : OpenClaim := { program := "ythmckhfjaleomaa", sum := "c7820b81336706c46d6df51a901827b832e8141f4b16e7f0dabafec6c8328dd9", func := "herald/heraldlaw22.DistMoves", spec := "distMoves", unfollowed := true, recurses := true, apart := false }
def DistMovesSaid : Prop := distMovesRow.holds Try.pinned (OpenSpec.ofChange distMovesSpec)

/-- ITS FALSE NEIGHBOUR: 'it returns false'. Refute it at one input. -/
def distMovesWrong : ChangeSpec := { name := "distMoves", fn := fun _ => fun
  | [d1, d2, d3] => { results := [.lit (.bool false)], args := [d1, d2, d3] }
  | _ => none }
def DistMovesWrongFalsely : Prop := distMovesRow.holds Try.pinned (OpenSpec.ofChange distMovesWrong)

/-- 'heraldlaw22.DistEnds': WHATEVER THE INPUT: true; the input reads as it did. -/
def distEndsSpec : ChangeSpec := { name := "distEnds", fn := fun _ => fun
  | [d1, d2] => { results := [.lit (.bool true)], args := [d1, d2] }
  | _ => none }
def distEndsRow : OpenClaim := { program := "ythmckhfjaleomaa", sum := "c7820b81336706c46d6df51a901827b832e8141f4b16e7f0dabafec6c8328dd9", func := "herald/heraldlaw22.DistEnds", spec := "distEnds", unfollowed := true, recurses := true, apart := false }
def DistEndsSaid : Prop := distEndsRow.holds Try.pinned (OpenSpec.ofChange distEndsSpec)

/-- ITS FALSE NEIGHBOUR: 'it returns false'. Refute it at one input. -/
def distEndsWrong : ChangeSpec := { name := "distEnds", fn := fun _ => fun
  | [d1, d2] => { results := [.lit (.bool false)], args := [d1, d2] }
  | _ => none }
def DistEndsWrongFalsely : Prop := distEndsRow.holds Try.pinned (OpenSpec.ofChange distEndsWrong)

/-- 'heraldlaw22.DistMemory': WHATEVER THE INPUT: true; the input reads as it did. -/
def distMemorySpec : ChangeSpec := { name := "distMemory", fn := fun _ => fun
  | [d1, d2] => { results := [.lit (.bool true)], args := [d1, d2] }
  | _ => none }
def distMemoryRow : OpenClaim := { program := "ythmckhfjaleomaa", sum := "c7820b81336706c46d6df51a901827b832e8141f4b16e7f0dabafec6c8328dd9", func := "herald/heraldlaw22.DistMemory", spec := "distMemory", unfollowed := true, recurses := true, apart := false }
def DistMemorySaid : Prop := distMemoryRow.holds Try.pinned (OpenSpec.ofChange distMemorySpec)

/-- ITS FALSE NEIGHBOUR: 'it returns false'. Refute it at one input. -/
def distMemoryWrong : ChangeSpec := { name := "distMemory", fn := fun _ => fun
  | [d1, d2] => { results := [.lit (.bool false)], args := [d1, d2] }
  | _ => none }
def DistMemoryWrongFalsely : Prop := distMemoryRow.holds Try.pinned (OpenSpec.ofChange distMemoryWrong)

/-- 'heraldlaw22.DistPenalties': WHATEVER THE INPUT: true; the input reads as it did. -/
def distPenaltiesSpec : ChangeSpec := { name := "distPenalties", fn := fun _ => fun
  | [d1, d2, d3] => { results := [.lit (.bool true)], args := [d1, d2, d3] }
  | _ => none }
def distPenaltiesRow : OpenClaim := { program := "ythmckhfjaleomaa", sum := "c7820b81336706c46d6df51a901827b832e8141f4b16e7f0dabafec6c8328dd9", func := "herald/heraldlaw22.DistPenalties", spec := "distPenalties", unfollowed := true, recurses := true, apart := false }
def DistPenaltiesSaid : Prop := distPenaltiesRow.holds Try.pinned (OpenSpec.ofChange distPenaltiesSpec)

/-- ITS FALSE NEIGHBOUR: 'it returns false'. Refute it at one input. -/
def distPenaltiesWrong : ChangeSpec := { name := "distPenalties", fn := fun _ => fun
  | [d1, d2, d3] => { results := [.lit (.bool false)], args := [d1, d2, d3] }
  | _ => none }
def DistPenaltiesWrongFalsely : Prop := distPenaltiesRow.holds Try.pinned (OpenSpec.ofChange distPenaltiesWrong)

/-- 'heraldlaw22.DistLeasts': WHATEVER THE INPUT: true; the input reads as it did. -/
def distLeastsSpec : ChangeSpec := { name := "distLeasts", fn := fun _ => fun
  | [d1, d2] => { results := [.lit (.bool true)], args := [d1, d2] }
  | _ => none }
def distLeastsRow : OpenClaim := { program := "ythmckhfjaleomaa", sum := "c7820b81336706c46d6df51a901827b832e8141f4b16e7f0dabafec6c8328dd9", func := "herald/heraldlaw22.DistLeasts", spec := "distLeasts", unfollowed := true, recurses := true, apart := false }
def DistLeastsSaid : Prop := distLeastsRow.holds Try.pinned (OpenSpec.ofChange distLeastsSpec)

/-- ITS FALSE NEIGHBOUR: 'it returns false'. Refute it at one input. -/
def distLeastsWrong : ChangeSpec := { name := "distLeasts", fn := fun _ => fun
  | [d1, d2] => { results := [.lit (.bool false)], args := [d1, d2] }
  | _ => none }
def DistLeastsWrongFalsely : Prop := distLeastsRow.holds Try.pinned (OpenSpec.ofChange distLeastsWrong)

/-- 'heraldlaw22.DistSurprises': WHATEVER THE INPUT: true; the input reads as it did. -/
def distSurprisesSpec : ChangeSpec := { name := "distSurprises", fn := fun _ => fun
  | [d1, d2] => { results := [.lit (.bool true)], args := [d1, d2] }
  | _ => none }
def distSurprisesRow : OpenClaim := { program := "ythmckhfjaleomaa", sum := "c7820b81336706c46d6df51a901827b832e8141f4b16e7f0dabafec6c8328dd9", func := "herald/heraldlaw22.DistSurprises", spec := "distSurprises", unfollowed := true, recurses := true, apart := false }
def DistSurprisesSaid : Prop := distSurprisesRow.holds Try.pinned (OpenSpec.ofChange distSurprisesSpec)

/-- ITS FALSE NEIGHBOUR: 'it returns false'. Refute it at one input. -/
def distSurprisesWrong : ChangeSpec := { name := "distSurprises", fn := fun _ => fun
  | [d1, d2] => { results := [.lit (.bool false)], args := [d1, d2] }
  | _ => none }
def DistSurprisesWrongFalsely : Prop := distSurprisesRow.holds Try.pinned (OpenSpec.ofChange distSurprisesWrong)

/-- 'heraldlaw22.DistBits': WHATEVER THE INPUT: true; the input reads as it did. -/
def distBitsSpec : ChangeSpec := { name := "distBits", fn := fun _ => fun
  | [d] => { results := [.lit (.bool true)], args := [d] }
  | _ => none }
def distBitsRow : OpenClaim := { program := "ythmckhfjaleomaa", sum := "c7820b81336706c46d6df51a901827b832e8141f4b16e7f0dabafec6c8328dd9", func := "herald/heraldlaw22.DistBits", spec := "distBits", unfollowed := true, recurses := true, apart := false }
def DistBitsSaid : Prop := distBitsRow.holds Try.pinned (OpenSpec.ofChange distBitsSpec)

/-- ITS FALSE NEIGHBOUR: 'it returns false'. Refute it at one input. -/
def distBitsWrong : ChangeSpec := { name := "distBits", fn := fun _ => fun
  | [d] => { results := [.lit (.bool false)], args := [d] }
  | _ => none }
def DistBitsWrongFalsely : Prop := distBitsRow.holds Try.pinned (OpenSpec.ofChange distBitsWrong)

/- THE SECOND FORM. 'bulk': how many values and letters a reading holds, each counted each time it is reached (what is shared counts as often as it is met; a slice's spare places count too). A statement '..UptoSaid' is the law's where the arguments, and the package variables that the reading takes, are together of bulk at most 1048576: NARROWER than '..Said'. Prove '..Said' where nothing that the law and all that it calls make is longer than what came in: it says more and counts as full. Else prove '..UptoSaid'. A law counts once. -/
mutual
def uptoBulk {H : Type} : DataW H → Nat
  | .lit (.string bytes) => bytes.length + 1
  | .lit _ => 1
  | .nil => 1
  | .ptr d => uptoBulk d + 1
  | .slice elems spare => uptoBulkAll elems + uptoBulkAll spare + 1
  | .agg parts => uptoBulkAll parts + 1
  | .iface _ d => uptoBulk d + 1
  | .map entries => uptoBulkEntries entries + 1
  | .held _ => 1
def uptoBulkAll {H : Type} : List (DataW H) → Nat
  | [] => 0
  | d :: r => uptoBulk d + uptoBulkAll r
def uptoBulkEntries {H : Type} : List (Lit × DataW H) → Nat
  | [] => 0
  | x :: r => uptoBulkEntry x + uptoBulkEntries r
def uptoBulkEntry {H : Type} : Lit × DataW H → Nat
  | (.string bytes, d) => bytes.length + uptoBulk d + 1
  | (_, d) => uptoBulk d + 1
 end
def uptoSmall : (H : Type) → List (DataW H) → Bool := fun _ ds => decide (uptoBulkAll ds ≤ 1048576)
def OpenSpec.upto (s : _root_.Go.ChangeSpec) : _root_.Go.OpenSpec := { _root_.Go.OpenSpec.ofChange s with cond := some uptoSmall }

/-- 'heraldlaw22.DistChecks', WHERE WHAT IT READS IS OF BULK AT MOST 1048576: true; the input reads as it did. -/
def distChecksUptoRow : OpenClaim := { program := "ythmckhfjaleomaa", sum := "c7820b81336706c46d6df51a901827b832e8141f4b16e7f0dabafec6c8328dd9", func := "herald/heraldlaw22.DistChecks", spec := "distChecks", unfollowed := true, recurses := true, apart := false, narrowed := true }
def DistChecksUptoSaid : Prop := distChecksUptoRow.holds Try.pinned (OpenSpec.upto distChecksSpec)

/-- 'heraldlaw22.DistWeights', WHERE WHAT IT READS IS OF BULK AT MOST 1048576: true; the input reads as it did. -/
def distWeightsUptoRow : OpenClaim := { program := "ythmckhfjaleomaa", sum := "c7820b81336706c46d6df51a901827b832e8141f4b16e7f0dabafec6c8328dd9", func := "herald/heraldlaw22.DistWeights", spec := "distWeights", unfollowed := true, recurses := true, apart := false, narrowed := true }
def DistWeightsUptoSaid : Prop := distWeightsUptoRow.holds Try.pinned (OpenSpec.upto distWeightsSpec)

/-- 'heraldlaw22.DistSums', WHERE WHAT IT READS IS OF BULK AT MOST 1048576: true; the input reads as it did. -/
def distSumsUptoRow : OpenClaim := { program := "ythmckhfjaleomaa", sum := "c7820b81336706c46d6df51a901827b832e8141f4b16e7f0dabafec6c8328dd9", func := "herald/heraldlaw22.DistSums", spec := "distSums", unfollowed := true, recurses := true, apart := false, narrowed := true }
def DistSumsUptoSaid : Prop := distSumsUptoRow.holds Try.pinned (OpenSpec.upto distSumsSpec)

/-- 'heraldlaw22.DistMoves', WHERE WHAT IT READS IS OF BULK AT MOST 1048576: true; the input reads as it did. -/
def distMovesUptoRow : OpenClaim := { program := "ythmckhfjaleomaa", sum := "c7820b81336706c46d6df51a901827b832e8141f4b16e7f0dabafec6c8328dd9", func := "herald/heraldlaw22.DistMoves", spec := "distMoves", unfollowed := true, recurses := true, apart := false, narrowed := true }
def DistMovesUptoSaid : Prop := distMovesUptoRow.holds Try.pinned (OpenSpec.upto distMovesSpec)

/-- 'heraldlaw22.DistEnds', WHERE WHAT IT READS IS OF BULK AT MOST 1048576: true; the input reads as it did. -/
def distEndsUptoRow : OpenClaim := { program := "ythmckhfjaleomaa", sum := "c7820b81336706c46d6df51a901827b832e8141f4b16e7f0dabafec6c8328dd9", func := "herald/heraldlaw22.DistEnds", spec := "distEnds", unfollowed := true, recurses := true, apart := false, narrowed := true }
def DistEndsUptoSaid : Prop := distEndsUptoRow.holds Try.pinned (OpenSpec.upto distEndsSpec)

/-- 'heraldlaw22.DistMemory', WHERE WHAT IT READS IS OF BULK AT MOST 1048576: true; the input reads as it did. -/
def distMemoryUptoRow : OpenClaim := { program := "ythmckhfjaleomaa", sum := "c7820b81336706c46d6df51a901827b832e8141f4b16e7f0dabafec6c8328dd9", func := "herald/heraldlaw22.DistMemory", spec := "distMemory", unfollowed := true, recurses := true, apart := false, narrowed := true }
def DistMemoryUptoSaid : Prop := distMemoryUptoRow.holds Try.pinned (OpenSpec.upto distMemorySpec)

/-- 'heraldlaw22.DistPenalties', WHERE WHAT IT READS IS OF BULK AT MOST 1048576: true; the input reads as it did. -/
def distPenaltiesUptoRow : OpenClaim := { program := "ythmckhfjaleomaa", sum := "c7820b81336706c46d6df51a901827b832e8141f4b16e7f0dabafec6c8328dd9", func := "herald/heraldlaw22.DistPenalties", spec := "distPenalties", unfollowed := true, recurses := true, apart := false, narrowed := true }
def DistPenaltiesUptoSaid : Prop := distPenaltiesUptoRow.holds Try.pinned (OpenSpec.upto distPenaltiesSpec)

/-- 'heraldlaw22.DistLeasts', WHERE WHAT IT READS IS OF BULK AT MOST 1048576: true; the input reads as it did. -/
def distLeastsUptoRow : OpenClaim := { program := "ythmckhfjaleomaa", sum := "c7820b81336706c46d6df51a901827b832e8141f4b16e7f0dabafec6c8328dd9", func := "herald/heraldlaw22.DistLeasts", spec := "distLeasts", unfollowed := true, recurses := true, apart := false, narrowed := true }
def DistLeastsUptoSaid : Prop := distLeastsUptoRow.holds Try.pinned (OpenSpec.upto distLeastsSpec)

/-- 'heraldlaw22.DistSurprises', WHERE WHAT IT READS IS OF BULK AT MOST 1048576: true; the input reads as it did. -/
def distSurprisesUptoRow : OpenClaim := { program := "ythmckhfjaleomaa", sum := "c7820b81336706c46d6df51a901827b832e8141f4b16e7f0dabafec6c8328dd9", func := "herald/heraldlaw22.DistSurprises", spec := "distSurprises", unfollowed := true, recurses := true, apart := false, narrowed := true }
def DistSurprisesUptoSaid : Prop := distSurprisesUptoRow.holds Try.pinned (OpenSpec.upto distSurprisesSpec)

/-- 'heraldlaw22.DistBits', WHERE WHAT IT READS IS OF BULK AT MOST 1048576: true; the input reads as it did. -/
def distBitsUptoRow : OpenClaim := { program := "ythmckhfjaleomaa", sum := "c7820b81336706c46d6df51a901827b832e8141f4b16e7f0dabafec6c8328dd9", func := "herald/heraldlaw22.DistBits", spec := "distBits", unfollowed := true, recurses := true, apart := false, narrowed := true }
def DistBitsUptoSaid : Prop := distBitsUptoRow.holds Try.pinned (OpenSpec.upto distBitsSpec)

end Rows
end Go.Proofs.Ythmckhfjaleomaa
