/-
  No cell of these rows narrows 'for every input' (looked for: loops, veiled, ifaces, maps, wideKeys, modest, calm, conditions, laid).
  DERIVED. THE GIVEN ROWS OF THIS SEAT. 4 by the template 'for every input the law returns true; each argument reads behind the call as it read before'; 0 by the template 'total and deterministic' (their statements: YtgolghimefageaaTotals.lean).
  GIVEN WITH THE SEED: the statements are not yours to turn. If you find one false, say at which input.
  Laid BY PROGRAM, IN A SANDBOX (cutbox-rows.mjs): the forced cells as the released guide's own fill.sh prints them over the translation 44d4f76167448881… (all of the seat's roots in one cut). By AI agents, Wed Nov 11 2026. No macro, syntax, notation, axiom, sorry.
-/
import Derived.Test.YtgolghimefageaaChecked
import GoSem.Claim
import GoSem.ClaimJoined
import GoSem.ClaimMapViews
import Derived.JoinedTies
import Derived.KernelRfl
namespace Go.Proofs.Ytgolghimefageaa
/- THE CELL 'sum', in the pinned program and in every row, IS THE sha256 OF THE DUMP (.gsa) THAT YtgolghimefageaaProg.lean LOADS. Nothing in Lean hashes anything: it is a label: what it is worth is what the hold of that sum in a sandbox is worth. -/
noncomputable def Try.pinned : Pinned := { name := "ytgolghimefageaa", sum := "44d4f76167448881e06922b001d9b04d6354aa1a2b972f5b660cb71754558d8e", checked := Try.checked }
namespace Rows
def none {H : Type} : Left H := { results := [], args := [] }

/-- 'heraldlaw06.QueueSorts': WHATEVER THE INPUT: true; the input reads as it did. -/
def queueSortsSpec : ChangeSpec := { name := "queueSorts", fn := fun _ => fun
  | [d1, d2] => { results := [.lit (.bool true)], args := [d1, d2] }
  | _ => none }
def queueSortsRow : OpenClaim := { program := "ytgolghimefageaa", sum := "44d4f76167448881e06922b001d9b04d6354aa1a2b972f5b660cb71754558d8e", func := "herald/heraldlaw06.QueueSorts", spec := "queueSorts", inPlace := ["slices.overlaps[*herald/queue.element[int64, string]]", "slices.overlaps[*herald/queue.element[string, int]]"], unfollowed := true, recurses := true, apart := false }
def QueueSortsSaid : Prop := queueSortsRow.holds Try.pinned (OpenSpec.ofChange queueSortsSpec)

/-- ITS FALSE NEIGHBOUR: 'it returns false'. Refute it at one input. -/
def queueSortsWrong : ChangeSpec := { name := "queueSorts", fn := fun _ => fun
  | [d1, d2] => { results := [.lit (.bool false)], args := [d1, d2] }
  | _ => none }
def QueueSortsWrongFalsely : Prop := queueSortsRow.holds Try.pinned (OpenSpec.ofChange queueSortsWrong)

/-- 'heraldlaw06.QueueTickets': WHATEVER THE INPUT: true; the input reads as it did. -/
def queueTicketsSpec : ChangeSpec := { name := "queueTickets", fn := fun _ => fun
  | [d1, d2] => { results := [.lit (.bool true)], args := [d1, d2] }
  | _ => none }
def queueTicketsRow : OpenClaim := { program := "ytgolghimefageaa", sum := "44d4f76167448881e06922b001d9b04d6354aa1a2b972f5b660cb71754558d8e", func := "herald/heraldlaw06.QueueTickets", spec := "queueTickets", inPlace := ["slices.overlaps[*herald/queue.element[int64, string]]"], unfollowed := true, recurses := true, apart := false }
def QueueTicketsSaid : Prop := queueTicketsRow.holds Try.pinned (OpenSpec.ofChange queueTicketsSpec)

/-- ITS FALSE NEIGHBOUR: 'it returns false'. Refute it at one input. -/
def queueTicketsWrong : ChangeSpec := { name := "queueTickets", fn := fun _ => fun
  | [d1, d2] => { results := [.lit (.bool false)], args := [d1, d2] }
  | _ => none }
def QueueTicketsWrongFalsely : Prop := queueTicketsRow.holds Try.pinned (OpenSpec.ofChange queueTicketsWrong)

/-- 'heraldlaw06.QueueMerges': WHATEVER THE INPUT: true; the input reads as it did. -/
def queueMergesSpec : ChangeSpec := { name := "queueMerges", fn := fun _ => fun
  | [d1, d2] => { results := [.lit (.bool true)], args := [d1, d2] }
  | _ => none }
def queueMergesRow : OpenClaim := { program := "ytgolghimefageaa", sum := "44d4f76167448881e06922b001d9b04d6354aa1a2b972f5b660cb71754558d8e", func := "herald/heraldlaw06.QueueMerges", spec := "queueMerges", inPlace := ["slices.overlaps[*herald/queue.element[int64, string]]", "slices.overlaps[*herald/queue.element[int64, int]]"], unfollowed := true, recurses := true, apart := false }
def QueueMergesSaid : Prop := queueMergesRow.holds Try.pinned (OpenSpec.ofChange queueMergesSpec)

/-- ITS FALSE NEIGHBOUR: 'it returns false'. Refute it at one input. -/
def queueMergesWrong : ChangeSpec := { name := "queueMerges", fn := fun _ => fun
  | [d1, d2] => { results := [.lit (.bool false)], args := [d1, d2] }
  | _ => none }
def QueueMergesWrongFalsely : Prop := queueMergesRow.holds Try.pinned (OpenSpec.ofChange queueMergesWrong)

/-- 'heraldlaw06.QueueWalk': WHATEVER THE INPUT: true; the input reads as it did. -/
def queueWalkSpec : ChangeSpec := { name := "queueWalk", fn := fun _ => fun
  | [d1, d2] => { results := [.lit (.bool true)], args := [d1, d2] }
  | _ => none }
def queueWalkRow : OpenClaim := { program := "ytgolghimefageaa", sum := "44d4f76167448881e06922b001d9b04d6354aa1a2b972f5b660cb71754558d8e", func := "herald/heraldlaw06.QueueWalk", spec := "queueWalk", inPlace := ["slices.overlaps[*herald/queue.element[int64, string]]", "slices.overlaps[*herald/queue.element[int64, int]]"], unfollowed := true, recurses := true, apart := false }
def QueueWalkSaid : Prop := queueWalkRow.holds Try.pinned (OpenSpec.ofChange queueWalkSpec)

/-- ITS FALSE NEIGHBOUR: 'it returns false'. Refute it at one input. -/
def queueWalkWrong : ChangeSpec := { name := "queueWalk", fn := fun _ => fun
  | [d1, d2] => { results := [.lit (.bool false)], args := [d1, d2] }
  | _ => none }
def QueueWalkWrongFalsely : Prop := queueWalkRow.holds Try.pinned (OpenSpec.ofChange queueWalkWrong)

/- THE SECOND FORM. 'bulk': how many values and letters a reading holds, each counted each time it is reached (what is shared counts as often as it is met; a slice's spare places count too). A statement '..UptoSaid' is the law's where the arguments, and the package variables that the reading takes, are together of bulk at most 1048576: NARROWER than '..Said'. Prove '..Said' where nothing that the law and all that it calls make is longer than what came in: it says more and counts as full. Else prove '..UptoSaid'. A law counts once. -/
mutual
def uptoBulk {H : Type} : DataW H → Nat
  | .lit (.string bytes) => bytes.length + 1
  | .lit _ => 1
  | .nil => 1
  | .ptr d => uptoBulk d + 1
  | .slice elems spare => uptoBulkAll elems + uptoBulkAll spare + 1
  | .agg parts => uptoBulkAll parts + 1
  | .iface _ d => uptoBulk d + 1
  | .map entries => uptoBulkEntries entries + 1
  | .held _ => 1
def uptoBulkAll {H : Type} : List (DataW H) → Nat
  | [] => 0
  | d :: r => uptoBulk d + uptoBulkAll r
def uptoBulkEntries {H : Type} : List (Lit × DataW H) → Nat
  | [] => 0
  | x :: r => uptoBulkEntry x + uptoBulkEntries r
def uptoBulkEntry {H : Type} : Lit × DataW H → Nat
  | (.string bytes, d) => bytes.length + uptoBulk d + 1
  | (_, d) => uptoBulk d + 1
 end
def uptoSmall : (H : Type) → List (DataW H) → Bool := fun _ ds => decide (uptoBulkAll ds ≤ 1048576)
def OpenSpec.upto (s : _root_.Go.ChangeSpec) : _root_.Go.OpenSpec := { _root_.Go.OpenSpec.ofChange s with cond := some uptoSmall }

/-- 'heraldlaw06.QueueSorts', WHERE WHAT IT READS IS OF BULK AT MOST 1048576: true; the input reads as it did. -/
def queueSortsUptoRow : OpenClaim := { program := "ytgolghimefageaa", sum := "44d4f76167448881e06922b001d9b04d6354aa1a2b972f5b660cb71754558d8e", func := "herald/heraldlaw06.QueueSorts", spec := "queueSorts", inPlace := ["slices.overlaps[*herald/queue.element[int64, string]]", "slices.overlaps[*herald/queue.element[string, int]]"], unfollowed := true, recurses := true, apart := false, narrowed := true }
def QueueSortsUptoSaid : Prop := queueSortsUptoRow.holds Try.pinned (OpenSpec.upto queueSortsSpec)

/-- 'heraldlaw06.QueueTickets', WHERE WHAT IT READS IS OF BULK AT MOST 1048576: true; the input reads as it did. -/
def queueTicketsUptoRow : OpenClaim := { program := "ytgolghimefageaa", sum := "44d4f76167448881e06922b001d9b04d6354aa1a2b972f5b660cb71754558d8e", func := "herald/heraldlaw06.QueueTickets", spec := "queueTickets", inPlace := ["slices.overlaps[*herald/queue.element[int64, string]]"], unfollowed := true, recurses := true, apart := false, narrowed := true }
def QueueTicketsUptoSaid : Prop := queueTicketsUptoRow.holds Try.pinned (OpenSpec.upto queueTicketsSpec)

/-- 'heraldlaw06.QueueMerges', WHERE WHAT IT READS IS OF BULK AT MOST 1048576: true; the input reads as it did. -/
def queueMergesUptoRow : OpenClaim := { program := "ytgolghimefageaa", sum := "44d4f76167448881e06922b001d9b04d6354aa1a2b972f5b660cb71754558d8e", func := "herald/heraldlaw06.QueueMerges", spec := "queueMerges", inPlace := ["slices.overlaps[*herald/queue.element[int64, string]]", "slices.overlaps[*herald/queue.element[int64, int]]"], unfollowed := true, recurses := true, apart := false, narrowed := true }
def QueueMergesUptoSaid : Prop := queueMergesUptoRow.holds Try.pinned (OpenSpec.upto queueMergesSpec)

/-- 'heraldlaw06.QueueWalk', WHERE WHAT IT READS IS OF BULK AT MOST 1048576: true; the input reads as it did. -/
def queueWalkUptoRow : OpenClaim := { program := "ytgolghimefageaa", sum := "44d4f76167448881e06922b001d9b04d6354aa1a2b972f5b660cb71754558d8e", func := "herald/heraldlaw06.QueueWalk", spec := "queueWalk", inPlace := ["slices.overlaps[*herald/queue.element[int64, string]]", "slices.overlaps[*herald/queue.element[int64, int]]"], unfollowed := true, recurses := true, apart := false, narrowed := true }
def QueueWalkUptoSaid : Prop := queueWalkUptoRow.holds Try.pinned (OpenSpec.upto queueWalkSpec)

end Rows
end Go.Proofs.Ytgolghimefageaa
