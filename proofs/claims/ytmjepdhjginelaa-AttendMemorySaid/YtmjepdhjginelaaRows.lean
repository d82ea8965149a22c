/-
  No cell of these rows narrows 'for every input' (looked for: loops, veiled, ifaces, maps, wideKeys, modest, calm, conditions, laid).
  DERIVED. THE GIVEN ROWS OF THIS SEAT. 8 by the template 'for every input the law returns true; each argument reads behind the call as it read before'; 0 by the template 'total and deterministic' (their statements: YtmjepdhjginelaaTotals.lean).
  GIVEN WITH THE SEED: the statements are not yours to turn. If you find one false, say at which input.
  Laid BY PROGRAM, IN A SANDBOX (cutbox-rows.mjs): the forced cells as the released guide's own fill.sh prints them over the translation 1fbe935b58f7a278… (all of the seat's roots in one cut). By AI agents, Wed Nov 11 2026. No macro, syntax, notation, axiom, sorry.
-/
import Derived.Test.YtmjepdhjginelaaChecked
import GoSem.Claim
import GoSem.ClaimJoined
import GoSem.ClaimMapViews
import Derived.JoinedTies
import Derived.KernelRfl
namespace Go.Proofs.Ytmjepdhjginelaa
/- THE CELL 'sum', in the pinned program and in every row, IS THE sha256 OF THE DUMP (.gsa) THAT YtmjepdhjginelaaProg.lean LOADS. Nothing in Lean hashes anything: it is a label: what it is worth is what the hold of that sum in a sandbox is worth. -/
noncomputable def Try.pinned : Pinned := { name := "ytmjepdhjginelaa", sum := "1fbe935b58f7a2786689522f1049f07d1f24eabbfd5b72659b8d37345de22c5a", checked := Try.checked }
namespace Rows
def none {H : Type} : Left H := { results := [], args := [] }

/-- 'heraldlaw19.AttendScores': WHATEVER THE INPUT: true; the input reads as it did. -/
def attendScoresSpec : ChangeSpec := { name := "attendScores", fn := fun _ => fun
  | [d1, d2, d3] => { results := [.lit (.bool true)], args := [d1, d2, d3] }
  | _ => none }
def attendScoresRow : OpenClaim := { program := "ytmjepdhjginelaa", sum := "1fbe935b58f7a2786689522f1049f07d1f24eabbfd5b72659b8d37345de22c5a", func := "herald/heraldlaw19.AttendScores", spec := "attendScores", unfollowed := true, recurses := true, apart := false }
def AttendScoresSaid : Prop := attendScoresRow.holds Try.pinned (OpenSpec.ofChange attendScoresSpec)

/-- ITS FALSE NEIGHBOUR: 'it returns false'. Refute it at one input. -/
def attendScoresWrong : ChangeSpec := { name := "attendScores", fn := fun _ => fun
  | [d1, d2, d3] => { results := [.lit (.bool false)], args := [d1, d2, d3] }
  | _ => none }
def AttendScoresWrongFalsely : Prop := attendScoresRow.holds Try.pinned (OpenSpec.ofChange attendScoresWrong)

/-- 'heraldlaw19.AttendHead': WHATEVER THE INPUT: true; the input reads as it did. -/
def attendHeadSpec : ChangeSpec := { name := "attendHead", fn := fun _ => fun
  | [d1, d2] => { results := [.lit (.bool true)], args := [d1, d2] }
  | _ => none }
def attendHeadRow : OpenClaim := { program := "ytmjepdhjginelaa", sum := "1fbe935b58f7a2786689522f1049f07d1f24eabbfd5b72659b8d37345de22c5a", func := "herald/heraldlaw19.AttendHead", spec := "attendHead", unfollowed := true, recurses := true, apart := false }
def AttendHeadSaid : Prop := attendHeadRow.holds Try.pinned (OpenSpec.ofChange attendHeadSpec)

/-- ITS FALSE NEIGHBOUR: 'it returns false'. Refute it at one input. -/
def attendHeadWrong : ChangeSpec := { name := "attendHead", fn := fun _ => fun
  | [d1, d2] => { results := [.lit (.bool false)], args := [d1, d2] }
  | _ => none }
def AttendHeadWrongFalsely : Prop := attendHeadRow.holds Try.pinned (OpenSpec.ofChange attendHeadWrong)

/-- 'heraldlaw19.AttendLooks': WHATEVER THE INPUT: true; the input reads as it did. -/
def attendLooksSpec : ChangeSpec := { name := "attendLooks", fn := fun _ => fun
  | [d1, d2] => { results := [.lit (.bool true)], args := [d1, d2] }
  | _ => none }
def attendLooksRow : OpenClaim := { program := "ytmjepdhjginelaa", sum := "1fbe935b58f7a2786689522f1049f07d1f24eabbfd5b72659b8d37345de22c5a", func := "herald/heraldlaw19.AttendLooks", spec := "attendLooks", unfollowed := true, recurses := true, apart := false }
def AttendLooksSaid : Prop := attendLooksRow.holds Try.pinned (OpenSpec.ofChange attendLooksSpec)

/-- ITS FALSE NEIGHBOUR: 'it returns false'. Refute it at one input. -/
def attendLooksWrong : ChangeSpec := { name := "attendLooks", fn := fun _ => fun
  | [d1, d2] => { results := [.lit (.bool false)], args := [d1, d2] }
  | _ => none }
def AttendLooksWrongFalsely : Prop := attendLooksRow.holds Try.pinned (OpenSpec.ofChange attendLooksWrong)

/-- 'heraldlaw19.AttendTurns': WHATEVER THE INPUT: true; the input reads as it did. -/
def attendTurnsSpec : ChangeSpec := { name := "attendTurns", fn := fun _ => fun
  | [d1, d2, d3] => { results := [.lit (.bool true)], args := [d1, d2, d3] }
  | _ => none }
def attendTurnsRow : OpenClaim := { program := "ytmjepdhjginelaa", sum := "1fbe935b58f7a2786689522f1049f07d1f24eabbfd5b72659b8d37345de22c5a", func := "herald/heraldlaw19.AttendTurns", spec := "attendTurns", unfollowed := true, recurses := true, apart := false }
def AttendTurnsSaid : Prop := attendTurnsRow.holds Try.pinned (OpenSpec.ofChange attendTurnsSpec)

/-- ITS FALSE NEIGHBOUR: 'it returns false'. Refute it at one input. -/
def attendTurnsWrong : ChangeSpec := { name := "attendTurns", fn := fun _ => fun
  | [d1, d2, d3] => { results := [.lit (.bool false)], args := [d1, d2, d3] }
  | _ => none }
def AttendTurnsWrongFalsely : Prop := attendTurnsRow.holds Try.pinned (OpenSpec.ofChange attendTurnsWrong)

/-- 'heraldlaw19.AttendBetween': WHATEVER THE INPUT: true; the input reads as it did. -/
def attendBetweenSpec : ChangeSpec := { name := "attendBetween", fn := fun _ => fun
  | [d1, d2] => { results := [.lit (.bool true)], args := [d1, d2] }
  | _ => none }
def attendBetweenRow : OpenClaim := { program := "ytmjepdhjginelaa", sum := "1fbe935b58f7a2786689522f1049f07d1f24eabbfd5b72659b8d37345de22c5a", func := "herald/heraldlaw19.AttendBetween", spec := "attendBetween", unfollowed := true, recurses := true, apart := false }
def AttendBetweenSaid : Prop := attendBetweenRow.holds Try.pinned (OpenSpec.ofChange attendBetweenSpec)

/-- ITS FALSE NEIGHBOUR: 'it returns false'. Refute it at one input. -/
def attendBetweenWrong : ChangeSpec := { name := "attendBetween", fn := fun _ => fun
  | [d1, d2] => { results := [.lit (.bool false)], args := [d1, d2] }
  | _ => none }
def AttendBetweenWrongFalsely : Prop := attendBetweenRow.holds Try.pinned (OpenSpec.ofChange attendBetweenWrong)

/-- 'heraldlaw19.AttendApart': WHATEVER THE INPUT: true; the input reads as it did. -/
def attendApartSpec : ChangeSpec := { name := "attendApart", fn := fun _ => fun
  | [d1, d2, d3] => { results := [.lit (.bool true)], args := [d1, d2, d3] }
  | _ => none }
def attendApartRow : OpenClaim := { program := "ytmjepdhjginelaa", sum := "1fbe935b58f7a2786689522f1049f07d1f24eabbfd5b72659b8d37345de22c5a", func := "herald/heraldlaw19.AttendApart", spec := "attendApart", unfollowed := true, recurses := true, apart := false }
def AttendApartSaid : Prop := attendApartRow.holds Try.pinned (OpenSpec.ofChange attendApartSpec)

/-- ITS FALSE NEIGHBOUR: 'it returns false'. Refute it at one input. -/
def attendApartWrong : ChangeSpec := { name := "attendApart", fn := fun _ => fun
  | [d1, d2, d3] => { results := [.lit (.bool false)], args := [d1, d2, d3] }
  | _ => none }
def AttendApartWrongFalsely : Prop := attendApartRow.holds Try.pinned (OpenSpec.ofChange attendApartWrong)

/-- 'heraldlaw19.AttendMemory': WHATEVER THE INPUT: true; the input reads as it did. -/
def attendMemorySpec : ChangeSpec := { name := "attendMemory", fn := fun _ => fun
  | [d1, d2] => { results := [.lit (.bool true)], args := [d1, d2] }
  | _ => none }
def attendMemoryRow : OpenClaim := { program := "ytmjepdhjginelaa", sum := "1fbe935b58f7a2786689522f1049f07d1f24eabbfd5b72659b8d37345de22c5a", func := "herald/heraldlaw19.AttendMemory", spec := "attendMemory", unfollowed := true, recurses := true, apart := false }
def AttendMemorySaid : Prop := attendMemoryRow.holds Try.pinned (OpenSpec.ofChange attendMemorySpec)

/-- ITS FALSE NEIGHBOUR: 'it returns false'. Refute it at one input. -/
def attendMemoryWrong : ChangeSpec := { name := "attendMemory", fn := fun _ => fun
  | [d1, d2] => { results := [.lit (.bool false)], args := [d1, d2] }
  | _ => none }
def AttendMemoryWrongFalsely : Prop := attendMemoryRow.holds Try.pinned (OpenSpec.ofChange attendMemoryWrong)

/-- 'heraldlaw19.AttendNear': WHATEVER THE INPUT: true; the input reads as it did. -/
def attendNearSpec : ChangeSpec := { name := "attendNear", fn := fun _ => fun
  | [d1, d2, d3] => { results := [.lit (.bool true)], args := [d1, d2, d3] }
  | _ => none }
def attendNearRow : OpenClaim := { program := "ytmjepdhjginelaa", sum := "1fbe935b58f7a2786689522f1049f07d1f24eabbfd5b72659b8d37345de22c5a", func := "herald/heraldlaw19.AttendNear", spec := "attendNear", unfollowed := true, recurses := true, apart := false }
def AttendNearSaid : Prop := attendNearRow.holds Try.pinned (OpenSpec.ofChange attendNearSpec)

/-- ITS FALSE NEIGHBOUR: 'it returns false'. Refute it at one input. -/
def attendNearWrong : ChangeSpec := { name := "attendNear", fn := fun _ => fun
  | [d1, d2, d3] => { results := [.lit (.bool false)], args := [d1, d2, d3] }
  | _ => none }
def AttendNearWrongFalsely : Prop := attendNearRow.holds Try.pinned (OpenSpec.ofChange attendNearWrong)

/- THE SECOND FORM. 'bulk': how many values and letters a reading holds, each counted each time it is reached (what is shared counts as often as it is met; a slice's spare places count too). A statement '..UptoSaid' is the law's where the arguments, and the package variables that the reading takes, are together of bulk at most 1048576: NARROWER than '..Said'. Prove '..Said' where nothing that the law and all that it calls make is longer than what came in: it says more and counts as full. Else prove '..UptoSaid'. A law counts once. -/
mutual
def uptoBulk {H : Type} : DataW H → Nat
  | .lit (.string bytes) => bytes.length + 1
  | .lit _ => 1
  | .nil => 1
  | .ptr d => uptoBulk d + 1
  | .slice elems spare => uptoBulkAll elems + uptoBulkAll spare + 1
  | .agg parts => uptoBulkAll parts + 1
  | .iface _ d => uptoBulk d + 1
  | .map entries => uptoBulkEntries entries + 1
  | .held _ => 1
def uptoBulkAll {H : Type} : List (DataW H) → Nat
  | [] => 0
  | d :: r => uptoBulk d + uptoBulkAll r
def uptoBulkEntries {H : Type} : List (Lit × DataW H) → Nat
  | [] => 0
  | x :: r => uptoBulkEntry x + uptoBulkEntries r
def uptoBulkEntry {H : Type} : Lit × DataW H → Nat
  | (.string bytes, d) => bytes.length + uptoBulk d + 1
  | (_, d) => uptoBulk d + 1
 end
def uptoSmall : (H : Type) → List (DataW H) → Bool := fun _ ds => decide (uptoBulkAll ds ≤ 1048576)
def OpenSpec.upto (s : _root_.Go.ChangeSpec) : _root_.Go.OpenSpec := { _root_.Go.OpenSpec.ofChange s with cond := some uptoSmall }

/-- 'heraldlaw19.AttendScores', WHERE WHAT IT READS IS OF BULK AT MOST 1048576: true; the input reads as it did. -/
def attendScoresUptoRow : OpenClaim := { program := "ytmjepdhjginelaa", sum := "1fbe935b58f7a2786689522f1049f07d1f24eabbfd5b72659b8d37345de22c5a", func := "herald/heraldlaw19.AttendScores", spec := "attendScores", unfollowed := true, recurses := true, apart := false, narrowed := true }
def AttendScoresUptoSaid : Prop := attendScoresUptoRow.holds Try.pinned (OpenSpec.upto attendScoresSpec)

/-- 'heraldlaw19.AttendHead', WHERE WHAT IT READS IS OF BULK AT MOST 1048576: true; the input reads as it did. -/
def attendHeadUptoRow : OpenClaim := { program := "ytmjepdhjginelaa", sum := "1fbe935b58f7a2786689522f1049f07d1f24eabbfd5b72659b8d37345de22c5a", func := "herald/heraldlaw19.AttendHead", spec := "attendHead", unfollowed := true, recurses := true, apart := false, narrowed := true }
def AttendHeadUptoSaid : Prop := attendHeadUptoRow.holds Try.pinned (OpenSpec.upto attendHeadSpec)

/-- 'heraldlaw19.AttendLooks', WHERE WHAT IT READS IS OF BULK AT MOST 1048576: true; the input reads as it did. -/
def attendLooksUptoRow : OpenClaim := { program := "ytmjepdhjginelaa", sum := "1fbe935b58f7a2786689522f1049f07d1f24eabbfd5b72659b8d37345de22c5a", func := "herald/heraldlaw19.AttendLooks", spec := "attendLooks", unfollowed := true, recurses := true, apart := false, narrowed := true }
def AttendLooksUptoSaid : Prop := attendLooksUptoRow.holds Try.pinned (OpenSpec.upto attendLooksSpec)

/-- 'heraldlaw19.AttendTurns', WHERE WHAT IT READS IS OF BULK AT MOST 1048576: true; the input reads as it did. -/
def attendTurnsUptoRow : OpenClaim := { program := "ytmjepdhjginelaa", sum := "1fbe935b58f7a2786689522f1049f07d1f24eabbfd5b72659b8d37345de22c5a", func := "herald/heraldlaw19.AttendTurns", spec := "attendTurns", unfollowed := true, recurses := true, apart := false, narrowed := true }
def AttendTurnsUptoSaid : Prop := attendTurnsUptoRow.holds Try.pinned (OpenSpec.upto attendTurnsSpec)

/-- 'heraldlaw19.AttendBetween', WHERE WHAT IT READS IS OF BULK AT MOST 1048576: true; the input reads as it did. -/
def attendBetweenUptoRow : OpenClaim := { program := "ytmjepdhjginelaa", sum := "1fbe935b58f7a2786689522f1049f07d1f24eabbfd5b72659b8d37345de22c5a", func := "herald/heraldlaw19.AttendBetween", spec := "attendBetween", unfollowed := true, recurses := true, apart := false, narrowed := true }
def AttendBetweenUptoSaid : Prop := attendBetweenUptoRow.holds Try.pinned (OpenSpec.upto attendBetweenSpec)

/-- 'heraldlaw19.AttendApart', WHERE WHAT IT READS IS OF BULK AT MOST 1048576: true; the input reads as it did. -/
def attendApartUptoRow : OpenClaim := { program := "ytmjepdhjginelaa", sum := "1fbe935b58f7a2786689522f1049f07d1f24eabbfd5b72659b8d37345de22c5a", func := "herald/heraldlaw19.AttendApart", spec := "attendApart", unfollowed := true, recurses := true, apart := false, narrowed := true }
def AttendApartUptoSaid : Prop := attendApartUptoRow.holds Try.pinned (OpenSpec.upto attendApartSpec)

/-- 'heraldlaw19.AttendMemory', WHERE WHAT IT READS IS OF BULK AT MOST 1048576: true; the input reads as it did. -/
def attendMemoryUptoRow : OpenClaim := { program := "ytmjepdhjginelaa", sum := "1fbe935b58f7a2786689522f1049f07d1f24eabbfd5b72659b8d37345de22c5a", func := "herald/heraldlaw19.AttendMemory", spec := "attendMemory", unfollowed := true, recurses := true, apart := false, narrowed := true }
def AttendMemoryUptoSaid : Prop := attendMemoryUptoRow.holds Try.pinned (OpenSpec.upto attendMemorySpec)

/-- 'heraldlaw19.AttendNear', WHERE WHAT IT READS IS OF BULK AT MOST 1048576: true; the input reads as it did. -/
def attendNearUptoRow : OpenClaim := { program := "ytmjepdhjginelaa", sum := "1fbe935b58f7a2786689522f1049f07d1f24eabbfd5b72659b8d37345de22c5a", func := "herald/heraldlaw19.AttendNear", spec := "attendNear", unfollowed := true, recurses := true, apart := false, narrowed := true }
def AttendNearUptoSaid : Prop := attendNearUptoRow.holds Try.pinned (OpenSpec.upto attendNearSpec)

end Rows
end Go.Proofs.Ytmjepdhjginelaa
