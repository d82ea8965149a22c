/-
  No cell of these rows narrows 'for every input' (looked for: loops, veiled, ifaces, maps, wideKeys, modest, calm, conditions, laid).
  DERIVED. THE GIVEN ROWS OF THIS SEAT. 11 by the template 'for every input the law returns true; each argument reads behind the call as it read before'; 0 by the template 'total and deterministic' (their statements: YtfegaffcalpmbaaTotals.lean).
  GIVEN WITH THE SEED: the statements are not yours to turn. If you find one false, say at which input.
  Laid BY PROGRAM, IN A SANDBOX (cutbox-rows.mjs): the forced cells as the released guide's own fill.sh prints them over the translation b5c09fd130d3fdc2… (all of the seat's roots in one cut). By AI agents, Wed Nov 11 2026. No macro, syntax, notation, axiom, sorry.
-/
import Derived.Test.YtfegaffcalpmbaaChecked
import GoSem.Claim
import GoSem.ClaimJoined
import GoSem.ClaimMapViews
import Derived.JoinedTies
import Derived.KernelRfl
namespace Go.Proofs.Ytfegaffcalpmbaa
/- THE CELL 'sum', in the pinned program and in every row, IS THE sha256 OF THE DUMP (.gsa) THAT YtfegaffcalpmbaaProg.lean LOADS. Nothing in Lean hashes anything: it is a label: what it is worth is what the hold of that sum in a sandbox is worth. -/
noncomputable def Try.pinned : Pinned := { name := "ytfegaffcalpmbaa", sum := "b5c09fd130d3fdc27854773b53c64550fdec7fe6d1d0e9b4f2f29e20117cb30a", checked := Try.checked }
namespace Rows
def none {H : Type} : Left H := { results := [], args := [] }

/-- 'heraldlaw07.RankSorts': WHATEVER THE INPUT: true; the input reads as it did. -/
def rankSortsSpec : ChangeSpec := { name := "rankSorts", fn := fun _ => fun
  | [d] => { results := [.lit (.bool true)], args := [d] }
  | _ => none }
def rankSortsRow : OpenClaim := { program := "ytfegaffcalpmbaa", sum := "b5c09fd130d3fdc27854773b53c64550fdec7fe6d1d0e9b4f2f29e20117cb30a", func := "herald/heraldlaw07.RankSorts", spec := "rankSorts", unfollowed := true, recurses := true, apart := false }
def RankSortsSaid : Prop := rankSortsRow.holds Try.pinned (OpenSpec.ofChange rankSortsSpec)

/-- ITS FALSE NEIGHBOUR: 'it returns false'. Refute it at one input. -/
def rankSortsWrong : ChangeSpec := { name := "rankSorts", fn := fun _ => fun
  | [d] => { results := [.lit (.bool false)], args := [d] }
  | _ => none }
def RankSortsWrongFalsely : Prop := rankSortsRow.holds Try.pinned (OpenSpec.ofChange rankSortsWrong)

/-- 'heraldlaw07.RankShares': WHATEVER THE INPUT: true; the input reads as it did. -/
def rankSharesSpec : ChangeSpec := { name := "rankShares", fn := fun _ => fun
  | [d1, d2] => { results := [.lit (.bool true)], args := [d1, d2] }
  | _ => none }
def rankSharesRow : OpenClaim := { program := "ytfegaffcalpmbaa", sum := "b5c09fd130d3fdc27854773b53c64550fdec7fe6d1d0e9b4f2f29e20117cb30a", func := "herald/heraldlaw07.RankShares", spec := "rankShares", unfollowed := true, recurses := true, apart := false }
def RankSharesSaid : Prop := rankSharesRow.holds Try.pinned (OpenSpec.ofChange rankSharesSpec)

/-- ITS FALSE NEIGHBOUR: 'it returns false'. Refute it at one input. -/
def rankSharesWrong : ChangeSpec := { name := "rankShares", fn := fun _ => fun
  | [d1, d2] => { results := [.lit (.bool false)], args := [d1, d2] }
  | _ => none }
def RankSharesWrongFalsely : Prop := rankSharesRow.holds Try.pinned (OpenSpec.ofChange rankSharesWrong)

/-- 'heraldlaw07.RankWhole': WHATEVER THE INPUT: true; the input reads as it did. -/
def rankWholeSpec : ChangeSpec := { name := "rankWhole", fn := fun _ => fun
  | [d1, d2] => { results := [.lit (.bool true)], args := [d1, d2] }
  | _ => none }
def rankWholeRow : OpenClaim := { program := "ytfegaffcalpmbaa", sum := "b5c09fd130d3fdc27854773b53c64550fdec7fe6d1d0e9b4f2f29e20117cb30a", func := "herald/heraldlaw07.RankWhole", spec := "rankWhole", unfollowed := true, recurses := true, apart := false }
def RankWholeSaid : Prop := rankWholeRow.holds Try.pinned (OpenSpec.ofChange rankWholeSpec)

/-- ITS FALSE NEIGHBOUR: 'it returns false'. Refute it at one input. -/
def rankWholeWrong : ChangeSpec := { name := "rankWhole", fn := fun _ => fun
  | [d1, d2] => { results := [.lit (.bool false)], args := [d1, d2] }
  | _ => none }
def RankWholeWrongFalsely : Prop := rankWholeRow.holds Try.pinned (OpenSpec.ofChange rankWholeWrong)

/-- 'heraldlaw07.RankScales': WHATEVER THE INPUT: true; the input reads as it did. -/
def rankScalesSpec : ChangeSpec := { name := "rankScales", fn := fun _ => fun
  | [d1, d2, d3] => { results := [.lit (.bool true)], args := [d1, d2, d3] }
  | _ => none }
def rankScalesRow : OpenClaim := { program := "ytfegaffcalpmbaa", sum := "b5c09fd130d3fdc27854773b53c64550fdec7fe6d1d0e9b4f2f29e20117cb30a", func := "herald/heraldlaw07.RankScales", spec := "rankScales", unfollowed := true, recurses := true, apart := false }
def RankScalesSaid : Prop := rankScalesRow.holds Try.pinned (OpenSpec.ofChange rankScalesSpec)

/-- ITS FALSE NEIGHBOUR: 'it returns false'. Refute it at one input. -/
def rankScalesWrong : ChangeSpec := { name := "rankScales", fn := fun _ => fun
  | [d1, d2, d3] => { results := [.lit (.bool false)], args := [d1, d2, d3] }
  | _ => none }
def RankScalesWrongFalsely : Prop := rankScalesRow.holds Try.pinned (OpenSpec.ofChange rankScalesWrong)

/-- 'heraldlaw07.RankBy': WHATEVER THE INPUT: true; the input reads as it did. -/
def rankBySpec : ChangeSpec := { name := "rankBy", fn := fun _ => fun
  | [d1, d2] => { results := [.lit (.bool true)], args := [d1, d2] }
  | _ => none }
def rankByRow : OpenClaim := { program := "ytfegaffcalpmbaa", sum := "b5c09fd130d3fdc27854773b53c64550fdec7fe6d1d0e9b4f2f29e20117cb30a", func := "herald/heraldlaw07.RankBy", spec := "rankBy", unfollowed := true, recurses := true, apart := false }
def RankBySaid : Prop := rankByRow.holds Try.pinned (OpenSpec.ofChange rankBySpec)

/-- ITS FALSE NEIGHBOUR: 'it returns false'. Refute it at one input. -/
def rankByWrong : ChangeSpec := { name := "rankBy", fn := fun _ => fun
  | [d1, d2] => { results := [.lit (.bool false)], args := [d1, d2] }
  | _ => none }
def RankByWrongFalsely : Prop := rankByRow.holds Try.pinned (OpenSpec.ofChange rankByWrong)

/-- 'heraldlaw07.RankEnds': WHATEVER THE INPUT: true; the input reads as it did. -/
def rankEndsSpec : ChangeSpec := { name := "rankEnds", fn := fun _ => fun
  | [d1, d2] => { results := [.lit (.bool true)], args := [d1, d2] }
  | _ => none }
def rankEndsRow : OpenClaim := { program := "ytfegaffcalpmbaa", sum := "b5c09fd130d3fdc27854773b53c64550fdec7fe6d1d0e9b4f2f29e20117cb30a", func := "herald/heraldlaw07.RankEnds", spec := "rankEnds", unfollowed := true, recurses := true, apart := false }
def RankEndsSaid : Prop := rankEndsRow.holds Try.pinned (OpenSpec.ofChange rankEndsSpec)

/-- ITS FALSE NEIGHBOUR: 'it returns false'. Refute it at one input. -/
def rankEndsWrong : ChangeSpec := { name := "rankEnds", fn := fun _ => fun
  | [d1, d2] => { results := [.lit (.bool false)], args := [d1, d2] }
  | _ => none }
def RankEndsWrongFalsely : Prop := rankEndsRow.holds Try.pinned (OpenSpec.ofChange rankEndsWrong)

/-- 'heraldlaw07.RankOrders': WHATEVER THE INPUT: true; the input reads as it did. -/
def rankOrdersSpec : ChangeSpec := { name := "rankOrders", fn := fun _ => fun
  | [d1, d2] => { results := [.lit (.bool true)], args := [d1, d2] }
  | _ => none }
def rankOrdersRow : OpenClaim := { program := "ytfegaffcalpmbaa", sum := "b5c09fd130d3fdc27854773b53c64550fdec7fe6d1d0e9b4f2f29e20117cb30a", func := "herald/heraldlaw07.RankOrders", spec := "rankOrders", unfollowed := true, recurses := true, apart := false }
def RankOrdersSaid : Prop := rankOrdersRow.holds Try.pinned (OpenSpec.ofChange rankOrdersSpec)

/-- ITS FALSE NEIGHBOUR: 'it returns false'. Refute it at one input. -/
def rankOrdersWrong : ChangeSpec := { name := "rankOrders", fn := fun _ => fun
  | [d1, d2] => { results := [.lit (.bool false)], args := [d1, d2] }
  | _ => none }
def RankOrdersWrongFalsely : Prop := rankOrdersRow.holds Try.pinned (OpenSpec.ofChange rankOrdersWrong)

/-- 'heraldlaw07.RankNucleus': WHATEVER THE INPUT: true; the input reads as it did. -/
def rankNucleusSpec : ChangeSpec := { name := "rankNucleus", fn := fun _ => fun
  | [d1, d2] => { results := [.lit (.bool true)], args := [d1, d2] }
  | _ => none }
def rankNucleusRow : OpenClaim := { program := "ytfegaffcalpmbaa", sum := "b5c09fd130d3fdc27854773b53c64550fdec7fe6d1d0e9b4f2f29e20117cb30a", func := "herald/heraldlaw07.RankNucleus", spec := "rankNucleus", unfollowed := true, recurses := true, apart := false }
def RankNucleusSaid : Prop := rankNucleusRow.holds Try.pinned (OpenSpec.ofChange rankNucleusSpec)

/-- ITS FALSE NEIGHBOUR: 'it returns false'. Refute it at one input. -/
def rankNucleusWrong : ChangeSpec := { name := "rankNucleus", fn := fun _ => fun
  | [d1, d2] => { results := [.lit (.bool false)], args := [d1, d2] }
  | _ => none }
def RankNucleusWrongFalsely : Prop := rankNucleusRow.holds Try.pinned (OpenSpec.ofChange rankNucleusWrong)

/-- 'heraldlaw07.RankMemory': WHATEVER THE INPUT: true; the input reads as it did. -/
def rankMemorySpec : ChangeSpec := { name := "rankMemory", fn := fun _ => fun
  | [d1, d2, d3] => { results := [.lit (.bool true)], args := [d1, d2, d3] }
  | _ => none }
def rankMemoryRow : OpenClaim := { program := "ytfegaffcalpmbaa", sum := "b5c09fd130d3fdc27854773b53c64550fdec7fe6d1d0e9b4f2f29e20117cb30a", func := "herald/heraldlaw07.RankMemory", spec := "rankMemory", unfollowed := true, recurses := true, apart := false }
def RankMemorySaid : Prop := rankMemoryRow.holds Try.pinned (OpenSpec.ofChange rankMemorySpec)

/-- ITS FALSE NEIGHBOUR: 'it returns false'. Refute it at one input. -/
def rankMemoryWrong : ChangeSpec := { name := "rankMemory", fn := fun _ => fun
  | [d1, d2, d3] => { results := [.lit (.bool false)], args := [d1, d2, d3] }
  | _ => none }
def RankMemoryWrongFalsely : Prop := rankMemoryRow.holds Try.pinned (OpenSpec.ofChange rankMemoryWrong)

/-- 'heraldlaw07.RankMerges': WHATEVER THE INPUT: true; the input reads as it did. -/
def rankMergesSpec : ChangeSpec := { name := "rankMerges", fn := fun _ => fun
  | [d1, d2] => { results := [.lit (.bool true)], args := [d1, d2] }
  | _ => none }
def rankMergesRow : OpenClaim := { program := "ytfegaffcalpmbaa", sum := "b5c09fd130d3fdc27854773b53c64550fdec7fe6d1d0e9b4f2f29e20117cb30a", func := "herald/heraldlaw07.RankMerges", spec := "rankMerges", unfollowed := true, recurses := true, apart := false }
def RankMergesSaid : Prop := rankMergesRow.holds Try.pinned (OpenSpec.ofChange rankMergesSpec)

/-- ITS FALSE NEIGHBOUR: 'it returns false'. Refute it at one input. -/
def rankMergesWrong : ChangeSpec := { name := "rankMerges", fn := fun _ => fun
  | [d1, d2] => { results := [.lit (.bool false)], args := [d1, d2] }
  | _ => none }
def RankMergesWrongFalsely : Prop := rankMergesRow.holds Try.pinned (OpenSpec.ofChange rankMergesWrong)

/-- 'heraldlaw07.RankPlaces': WHATEVER THE INPUT: true; the input reads as it did. -/
def rankPlacesSpec : ChangeSpec := { name := "rankPlaces", fn := fun _ => fun
  | [d1, d2, d3] => { results := [.lit (.bool true)], args := [d1, d2, d3] }
  | _ => none }
def rankPlacesRow : OpenClaim := { program := "ytfegaffcalpmbaa", sum := "b5c09fd130d3fdc27854773b53c64550fdec7fe6d1d0e9b4f2f29e20117cb30a", func := "herald/heraldlaw07.RankPlaces", spec := "rankPlaces", unfollowed := true, recurses := true, apart := false }
def RankPlacesSaid : Prop := rankPlacesRow.holds Try.pinned (OpenSpec.ofChange rankPlacesSpec)

/-- ITS FALSE NEIGHBOUR: 'it returns false'. Refute it at one input. -/
def rankPlacesWrong : ChangeSpec := { name := "rankPlaces", fn := fun _ => fun
  | [d1, d2, d3] => { results := [.lit (.bool false)], args := [d1, d2, d3] }
  | _ => none }
def RankPlacesWrongFalsely : Prop := rankPlacesRow.holds Try.pinned (OpenSpec.ofChange rankPlacesWrong)

/- THE SECOND FORM. 'bulk': how many values and letters a reading holds, each counted each time it is reached (what is shared counts as often as it is met; a slice's spare places count too). A statement '..UptoSaid' is the law's where the arguments, and the package variables that the reading takes, are together of bulk at most 1048576: NARROWER than '..Said'. Prove '..Said' where nothing that the law and all that it calls make is longer than what came in: it says more and counts as full. Else prove '..UptoSaid'. A law counts once. -/
mutual
def uptoBulk {H : Type} : DataW H → Nat
  | .lit (.string bytes) => bytes.length + 1
  | .lit _ => 1
  | .nil => 1
  | .ptr d => uptoBulk d + 1
  | .slice elems spare => uptoBulkAll elems + uptoBulkAll spare + 1
  | .agg parts => uptoBulkAll parts + 1
  | .iface _ d => uptoBulk d + 1
  | .map entries => uptoBulkEntries entries + 1
  | .held _ => 1
def uptoBulkAll {H : Type} : List (DataW H) → Nat
  | [] => 0
  | d :: r => uptoBulk d + uptoBulkAll r
def uptoBulkEntries {H : Type} : List (Lit × DataW H) → Nat
  | [] => 0
  | x :: r => uptoBulkEntry x + uptoBulkEntries r
def uptoBulkEntry {H : Type} : Lit × DataW H → Nat
  | (.string bytes, d) => bytes.length + uptoBulk d + 1
  | (_, d) => uptoBulk d + 1
 end
def uptoSmall : (H : Type) → List (DataW H) → Bool := fun _ ds => decide (uptoBulkAll ds ≤ 1048576)
def OpenSpec.upto (s : _root_.Go.ChangeSpec) : _root_.Go.OpenSpec := { _root_.Go.OpenSpec.ofChange s with cond := some uptoSmall }

/-- 'heraldlaw07.RankSorts', WHERE WHAT IT READS IS OF BULK AT MOST 1048576: true; the input reads as it did. -/
def rankSortsUptoRow : OpenClaim := { program := "ytfegaffcalpmbaa", sum := "b5c09fd130d3fdc27854773b53c64550fdec7fe6d1d0e9b4f2f29e20117cb30a", func := "herald/heraldlaw07.RankSorts", spec := "rankSorts", unfollowed := true, recurses := true, apart := false, narrowed := true }
def RankSortsUptoSaid : Prop := rankSortsUptoRow.holds Try.pinned (OpenSpec.upto rankSortsSpec)

/-- 'heraldlaw07.RankShares', WHERE WHAT IT READS IS OF BULK AT MOST 1048576: true; the input reads as it did. -/
def rankSharesUptoRow : OpenClaim := { program := "ytfegaffcalpmbaa", sum := "b5c09fd130d3fdc27854773b53c64550fdec7fe6d1d0e9b4f2f29e20117cb30a", func := "herald/heraldlaw07.RankShares", spec := "rankShares", unfollowed := true, recurses := true, apart := false, narrowed := true }
def RankSharesUptoSaid : Prop := rankSharesUptoRow.holds Try.pinned (OpenSpec.upto rankSharesSpec)

/-- 'heraldlaw07.RankWhole', WHERE WHAT IT READS IS OF BULK AT MOST 1048576: true; the input reads as it did. -/
def rankWholeUptoRow : OpenClaim := { program := "ytfegaffcalpmbaa", sum := "b5c09fd130d3fdc27854773b53c64550fdec7fe6d1d0e9b4f2f29e20117cb30a", func := "herald/heraldlaw07.RankWhole", spec := "rankWhole", unfollowed := true, recurses := true, apart := false, narrowed := true }
def RankWholeUptoSaid : Prop := rankWholeUptoRow.holds Try.pinned (OpenSpec.upto rankWholeSpec)

/-- 'heraldlaw07.RankScales', WHERE WHAT IT READS IS OF BULK AT MOST 1048576: true; the input reads as it did. -/
def rankScalesUptoRow : OpenClaim := { program := "ytfegaffcalpmbaa", sum := "b5c09fd130d3fdc27854773b53c64550fdec7fe6d1d0e9b4f2f29e20117cb30a", func := "herald/heraldlaw07.RankScales", spec := "rankScales", unfollowed := true, recurses := true, apart := false, narrowed := true }
def RankScalesUptoSaid : Prop := rankScalesUptoRow.holds Try.pinned (OpenSpec.upto rankScalesSpec)

/-- 'heraldlaw07.RankBy', WHERE WHAT IT READS IS OF BULK AT MOST 1048576: true; the input reads as it did. -/
def rankByUptoRow : OpenClaim := { program := "ytfegaffcalpmbaa", sum := "b5c09fd130d3fdc27854773b53c64550fdec7fe6d1d0e9b4f2f29e20117cb30a", func := "herald/heraldlaw07.RankBy", spec := "rankBy", unfollowed := true, recurses := true, apart := false, narrowed := true }
def RankByUptoSaid : Prop := rankByUptoRow.holds Try.pinned (OpenSpec.upto rankBySpec)

/-- 'heraldlaw07.RankEnds', WHERE WHAT IT READS IS OF BULK AT MOST 1048576: true; the input reads as it did. -/
def rankEndsUptoRow : OpenClaim := { program := "ytfegaffcalpmbaa", sum := "b5c09fd130d3fdc27854773b53c64550fdec7fe6d1d0e9b4f2f29e20117cb30a", func := "herald/heraldlaw07.RankEnds", spec := "rankEnds", unfollowed := true, recurses := true, apart := false, narrowed := true }
def RankEndsUptoSaid : Prop := rankEndsUptoRow.holds Try.pinned (OpenSpec.upto rankEndsSpec)

/-- 'heraldlaw07.RankOrders', WHERE WHAT IT READS IS OF BULK AT MOST 1048576: true; the input reads as it did. -/
def rankOrdersUptoRow : OpenClaim := { program := "ytfegaffcalpmbaa", sum := "b5c09fd130d3fdc27854773b53c64550fdec7fe6d1d0e9b4f2f29e20117cb30a", func := "herald/heraldlaw07.RankOrders", spec := "rankOrders", unfollowed := true, recurses := true, apart := false, narrowed := true }
def RankOrdersUptoSaid : Prop := rankOrdersUptoRow.holds Try.pinned (OpenSpec.upto rankOrdersSpec)

/-- 'heraldlaw07.RankNucleus', WHERE WHAT IT READS IS OF BULK AT MOST 1048576: true; the input reads as it did. -/
def rankNucleusUptoRow : OpenClaim := { program := "ytfegaffcalpmbaa", sum := "b5c09fd130d3fdc27854773b53c64550fdec7fe6d1d0e9b4f2f29e20117cb30a", func := "herald/heraldlaw07.RankNucleus", spec := "rankNucleus", unfollowed := true, recurses := true, apart := false, narrowed := true }
def RankNucleusUptoSaid : Prop := rankNucleusUptoRow.holds Try.pinned (OpenSpec.upto rankNucleusSpec)

/-- 'heraldlaw07.RankMemory', WHERE WHAT IT READS IS OF BULK AT MOST 1048576: true; the input reads as it did. -/
def rankMemoryUptoRow : OpenClaim := { program := "ytfegaffcalpmbaa", sum := "b5c09fd130d3fdc27854773b53c64550fdec7fe6d1d0e9b4f2f29e20117cb30a", func := "herald/heraldlaw07.RankMemory", spec := "rankMemory", unfollowed := true, recurses := true, apart := false, narrowed := true }
def RankMemoryUptoSaid : Prop := rankMemoryUptoRow.holds Try.pinned (OpenSpec.upto rankMemorySpec)

/-- 'heraldlaw07.RankMerges', WHERE WHAT IT READS IS OF BULK AT MOST 1048576: true; the input reads as it did. -/
def rankMergesUptoRow : OpenClaim := { program := "ytfegaffcalpmbaa", sum := "b5c09fd130d3fdc27854773b53c64550fdec7fe6d1d0e9b4f2f29e20117cb30a", func := "herald/heraldlaw07.RankMerges", spec := "rankMerges", unfollowed := true, recurses := true, apart := false, narrowed := true }
def RankMergesUptoSaid : Prop := rankMergesUptoRow.holds Try.pinned (OpenSpec.upto rankMergesSpec)

/-- 'heraldlaw07.RankPlaces', WHERE WHAT IT READS IS OF BULK AT MOST 1048576: true; the input reads as it did. -/
def rankPlacesUptoRow : OpenClaim := { program := "ytfegaffcalpmbaa", sum := "b5c09fd130d3fdc27854773b53c64550fdec7fe6d1d0e9b4f2f29e20117cb30a", func := "herald/heraldlaw07.RankPlaces", spec := "rankPlaces", unfollowed := true, recurses := true, apart := false, narrowed := true }
def RankPlacesUptoSaid : Prop := rankPlacesUptoRow.holds Try.pinned (OpenSpec.upto rankPlacesSpec)

end Rows
end Go.Proofs.Ytfegaffcalpmbaa
