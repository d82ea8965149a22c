/-
  No cell of these rows narrows 'for every input' (looked for: loops, veiled, ifaces, maps, wideKeys, modest, calm, conditions, laid).
  DERIVED. THE GIVEN ROWS OF THIS SEAT. 7 by the template 'for every input the law returns true; each argument reads behind the call as it read before'; 0 by the template 'total and deterministic' (their statements: YtjcfhgpaipbedaaTotals.lean).
  GIVEN WITH THE SEED: the statements are not yours to turn. If you find one false, say at which input.
  Laid BY PROGRAM, IN A SANDBOX (cutbox-rows.mjs): the forced cells as the released guide's own fill.sh prints them over the translation de1f08c7a5bbc731… (all of the seat's roots in one cut). By AI agents, Wed Nov 11 2026. No macro, syntax, notation, axiom, sorry.
-/
import Derived.Test.YtjcfhgpaipbedaaChecked
import GoSem.Claim
import GoSem.ClaimJoined
import GoSem.ClaimMapViews
import Derived.JoinedTies
import Derived.KernelRfl
namespace Go.Proofs.Ytjcfhgpaipbedaa
/- THE CELL 'sum', in the pinned program and in every row, IS THE sha256 OF THE DUMP (.gsa) THAT YtjcfhgpaipbedaaProg.lean LOADS. Nothing in Lean hashes anything: it is a label: what it is worth is what the hold of that sum in a sandbox is worth. -/
noncomputable def Try.pinned : Pinned := { name := "ytjcfhgpaipbedaa", sum := "de1f08c7a5bbc731e37793f1efd6a89edf22ff99d5d40d47ea3e367f3ed988fc", checked := Try.checked }
namespace Rows
def none {H : Type} : Left H := { results := [], args := [] }

/-- 'heraldlaw12.ActTables': WHATEVER THE INPUT: true; the input reads as it did. -/
def actTablesSpec : ChangeSpec := { name := "actTables", fn := fun _ => fun
  | [d] => { results := [.lit (.bool true)], args := [d] }
  | _ => none }
def actTablesRow : OpenClaim := { program := "ytjcfhgpaipbedaa", sum := "de1f08c7a5bbc731e37793f1efd6a89edf22ff99d5d40d47ea3e367f3ed988fc", func := "herald/heraldlaw12.ActTables", spec := "actTables", unfollowed := true, recurses := true, apart := false }
def ActTablesSaid : Prop := actTablesRow.holds Try.pinned (OpenSpec.ofChange actTablesSpec)

/-- ITS FALSE NEIGHBOUR: 'it returns false'. Refute it at one input. -/
def actTablesWrong : ChangeSpec := { name := "actTables", fn := fun _ => fun
  | [d] => { results := [.lit (.bool false)], args := [d] }
  | _ => none }
def ActTablesWrongFalsely : Prop := actTablesRow.holds Try.pinned (OpenSpec.ofChange actTablesWrong)

/-- 'heraldlaw12.ActGates': WHATEVER THE INPUT: true; the input reads as it did. -/
def actGatesSpec : ChangeSpec := { name := "actGates", fn := fun _ => fun
  | [d1, d2, d3] => { results := [.lit (.bool true)], args := [d1, d2, d3] }
  | _ => none }
def actGatesRow : OpenClaim := { program := "ytjcfhgpaipbedaa", sum := "de1f08c7a5bbc731e37793f1efd6a89edf22ff99d5d40d47ea3e367f3ed988fc", func := "herald/heraldlaw12.ActGates", spec := "actGates", unfollowed := true, recurses := true, apart := false }
def ActGatesSaid : Prop := actGatesRow.holds Try.pinned (OpenSpec.ofChange actGatesSpec)

/-- ITS FALSE NEIGHBOUR: 'it returns false'. Refute it at one input. -/
def actGatesWrong : ChangeSpec := { name := "actGates", fn := fun _ => fun
  | [d1, d2, d3] => { results := [.lit (.bool false)], args := [d1, d2, d3] }
  | _ => none }
def ActGatesWrongFalsely : Prop := actGatesRow.holds Try.pinned (OpenSpec.ofChange actGatesWrong)

/-- 'heraldlaw12.ActMiddles': WHATEVER THE INPUT: true; the input reads as it did. -/
def actMiddlesSpec : ChangeSpec := { name := "actMiddles", fn := fun _ => fun
  | [d1, d2, d3] => { results := [.lit (.bool true)], args := [d1, d2, d3] }
  | _ => none }
def actMiddlesRow : OpenClaim := { program := "ytjcfhgpaipbedaa", sum := "de1f08c7a5bbc731e37793f1efd6a89edf22ff99d5d40d47ea3e367f3ed988fc", func := "herald/heraldlaw12.ActMiddles", spec := "actMiddles", unfollowed := true, recurses := true, apart := false }
def ActMiddlesSaid : Prop := actMiddlesRow.holds Try.pinned (OpenSpec.ofChange actMiddlesSpec)

/-- ITS FALSE NEIGHBOUR: 'it returns false'. Refute it at one input. -/
def actMiddlesWrong : ChangeSpec := { name := "actMiddles", fn := fun _ => fun
  | [d1, d2, d3] => { results := [.lit (.bool false)], args := [d1, d2, d3] }
  | _ => none }
def ActMiddlesWrongFalsely : Prop := actMiddlesRow.holds Try.pinned (OpenSpec.ofChange actMiddlesWrong)

/-- 'heraldlaw12.ActBends': WHATEVER THE INPUT: true; the input reads as it did. -/
def actBendsSpec : ChangeSpec := { name := "actBends", fn := fun _ => fun
  | [d] => { results := [.lit (.bool true)], args := [d] }
  | _ => none }
def actBendsRow : OpenClaim := { program := "ytjcfhgpaipbedaa", sum := "de1f08c7a5bbc731e37793f1efd6a89edf22ff99d5d40d47ea3e367f3ed988fc", func := "herald/heraldlaw12.ActBends", spec := "actBends", unfollowed := true, recurses := true, apart := false }
def ActBendsSaid : Prop := actBendsRow.holds Try.pinned (OpenSpec.ofChange actBendsSpec)

/-- ITS FALSE NEIGHBOUR: 'it returns false'. Refute it at one input. -/
def actBendsWrong : ChangeSpec := { name := "actBends", fn := fun _ => fun
  | [d] => { results := [.lit (.bool false)], args := [d] }
  | _ => none }
def ActBendsWrongFalsely : Prop := actBendsRow.holds Try.pinned (OpenSpec.ofChange actBendsWrong)

/-- 'heraldlaw12.ActShuts': WHATEVER THE INPUT: true; the input reads as it did. -/
def actShutsSpec : ChangeSpec := { name := "actShuts", fn := fun _ => fun
  | [d1, d2, d3] => { results := [.lit (.bool true)], args := [d1, d2, d3] }
  | _ => none }
def actShutsRow : OpenClaim := { program := "ytjcfhgpaipbedaa", sum := "de1f08c7a5bbc731e37793f1efd6a89edf22ff99d5d40d47ea3e367f3ed988fc", func := "herald/heraldlaw12.ActShuts", spec := "actShuts", unfollowed := true, recurses := true, apart := false }
def ActShutsSaid : Prop := actShutsRow.holds Try.pinned (OpenSpec.ofChange actShutsSpec)

/-- ITS FALSE NEIGHBOUR: 'it returns false'. Refute it at one input. -/
def actShutsWrong : ChangeSpec := { name := "actShuts", fn := fun _ => fun
  | [d1, d2, d3] => { results := [.lit (.bool false)], args := [d1, d2, d3] }
  | _ => none }
def ActShutsWrongFalsely : Prop := actShutsRow.holds Try.pinned (OpenSpec.ofChange actShutsWrong)

/-- 'heraldlaw12.ActChooses': WHATEVER THE INPUT: true; the input reads as it did. -/
def actChoosesSpec : ChangeSpec := { name := "actChooses", fn := fun _ => fun
  | [d1, d2] => { results := [.lit (.bool true)], args := [d1, d2] }
  | _ => none }
def actChoosesRow : OpenClaim := { program := "ytjcfhgpaipbedaa", sum := "de1f08c7a5bbc731e37793f1efd6a89edf22ff99d5d40d47ea3e367f3ed988fc", func := "herald/heraldlaw12.ActChooses", spec := "actChooses", unfollowed := true, recurses := true, apart := false }
def ActChoosesSaid : Prop := actChoosesRow.holds Try.pinned (OpenSpec.ofChange actChoosesSpec)

/-- ITS FALSE NEIGHBOUR: 'it returns false'. Refute it at one input. -/
def actChoosesWrong : ChangeSpec := { name := "actChooses", fn := fun _ => fun
  | [d1, d2] => { results := [.lit (.bool false)], args := [d1, d2] }
  | _ => none }
def ActChoosesWrongFalsely : Prop := actChoosesRow.holds Try.pinned (OpenSpec.ofChange actChoosesWrong)

/-- 'heraldlaw12.ActAlike': WHATEVER THE INPUT: true; the input reads as it did. -/
def actAlikeSpec : ChangeSpec := { name := "actAlike", fn := fun _ => fun
  | [d1, d2, d3] => { results := [.lit (.bool true)], args := [d1, d2, d3] }
  | _ => none }
def actAlikeRow : OpenClaim := { program := "ytjcfhgpaipbedaa", sum := "de1f08c7a5bbc731e37793f1efd6a89edf22ff99d5d40d47ea3e367f3ed988fc", func := "herald/heraldlaw12.ActAlike", spec := "actAlike", unfollowed := true, recurses := true, apart := false }
def ActAlikeSaid : Prop := actAlikeRow.holds Try.pinned (OpenSpec.ofChange actAlikeSpec)

/-- ITS FALSE NEIGHBOUR: 'it returns false'. Refute it at one input. -/
def actAlikeWrong : ChangeSpec := { name := "actAlike", fn := fun _ => fun
  | [d1, d2, d3] => { results := [.lit (.bool false)], args := [d1, d2, d3] }
  | _ => none }
def ActAlikeWrongFalsely : Prop := actAlikeRow.holds Try.pinned (OpenSpec.ofChange actAlikeWrong)

/- THE SECOND FORM. 'bulk': how many values and letters a reading holds, each counted each time it is reached (what is shared counts as often as it is met; a slice's spare places count too). A statement '..UptoSaid' is the law's where the arguments, and the package variables that the reading takes, are together of bulk at most 1048576: NARROWER than '..Said'. Prove '..Said' where nothing that the law and all that it calls make is longer than what came in: it says more and counts as full. Else prove '..UptoSaid'. A law counts once. -/
mutual
def uptoBulk {H : Type} : DataW H → Nat
  | .lit (.string bytes) => bytes.length + 1
  | .lit _ => 1
  | .nil => 1
  | .ptr d => uptoBulk d + 1
  | .slice elems spare => uptoBulkAll elems + uptoBulkAll spare + 1
  | .agg parts => uptoBulkAll parts + 1
  | .iface _ d => uptoBulk d + 1
  | .map entries => uptoBulkEntries entries + 1
  | .held _ => 1
def uptoBulkAll {H : Type} : List (DataW H) → Nat
  | [] => 0
  | d :: r => uptoBulk d + uptoBulkAll r
def uptoBulkEntries {H : Type} : List (Lit × DataW H) → Nat
  | [] => 0
  | x :: r => uptoBulkEntry x + uptoBulkEntries r
def uptoBulkEntry {H : Type} : Lit × DataW H → Nat
  | (.string bytes, d) => bytes.length + uptoBulk d + 1
  | (_, d) => uptoBulk d + 1
 end
def uptoSmall : (H : Type) → List (DataW H) → Bool := fun _ ds => decide (uptoBulkAll ds ≤ 1048576)
def OpenSpec.upto (s : _root_.Go.ChangeSpec) : _root_.Go.OpenSpec := { _root_.Go.OpenSpec.ofChange s with cond := some uptoSmall }

/-- 'heraldlaw12.ActTables', WHERE WHAT IT READS IS OF BULK AT MOST 1048576: true; the input reads as it did. -/
def actTablesUptoRow : OpenClaim := { program := "ytjcfhgpaipbedaa", sum := "de1f08c7a5bbc731e37793f1efd6a89edf22ff99d5d40d47ea3e367f3ed988fc", func := "herald/heraldlaw12.ActTables", spec := "actTables", unfollowed := true, recurses := true, apart := false, narrowed := true }
def ActTablesUptoSaid : Prop := actTablesUptoRow.holds Try.pinned (OpenSpec.upto actTablesSpec)

/-- 'heraldlaw12.ActGates', WHERE WHAT IT READS IS OF BULK AT MOST 1048576: true; the input reads as it did. -/
def actGatesUptoRow : OpenClaim := { program := "ytjcfhgpaipbedaa", sum := "de1f08c7a5bbc731e37793f1efd6a89edf22ff99d5d40d47ea3e367f3ed988fc", func := "herald/heraldlaw12.ActGates", spec := "actGates", unfollowed := true, recurses := true, apart := false, narrowed := true }
def ActGatesUptoSaid : Prop := actGatesUptoRow.holds Try.pinned (OpenSpec.upto actGatesSpec)

/-- 'heraldlaw12.ActMiddles', WHERE WHAT IT READS IS OF BULK AT MOST 1048576: true; the input reads as it did. -/
def actMiddlesUptoRow : OpenClaim := { program := "ytjcfhgpaipbedaa", sum := "de1f08c7a5bbc731e37793f1efd6a89edf22ff99d5d40d47ea3e367f3ed988fc", func := "herald/heraldlaw12.ActMiddles", spec := "actMiddles", unfollowed := true, recurses := true, apart := false, narrowed := true }
def ActMiddlesUptoSaid : Prop := actMiddlesUptoRow.holds Try.pinned (OpenSpec.upto actMiddlesSpec)

/-- 'heraldlaw12.ActBends', WHERE WHAT IT READS IS OF BULK AT MOST 1048576: true; the input reads as it did. -/
def actBendsUptoRow : OpenClaim := { program := "ytjcfhgpaipbedaa", sum := "de1f08c7a5bbc731e37793f1efd6a89edf22ff99d5d40d47ea3e367f3ed988fc", func := "herald/heraldlaw12.ActBends", spec := "actBends", unfollowed := true, recurses := true, apart := false, narrowed := true }
def ActBendsUptoSaid : Prop := actBendsUptoRow.holds Try.pinned (OpenSpec.upto actBendsSpec)

/-- 'heraldlaw12.ActShuts', WHERE WHAT IT READS IS OF BULK AT MOST 1048576: true; the input reads as it did. -/
def actShutsUptoRow : OpenClaim := { program := "ytjcfhgpaipbedaa", sum := "de1f08c7a5bbc731e37793f1efd6a89edf22ff99d5d40d47ea3e367f3ed988fc", func := "herald/heraldlaw12.ActShuts", spec := "actShuts", unfollowed := true, recurses := true, apart := false, narrowed := true }
def ActShutsUptoSaid : Prop := actShutsUptoRow.holds Try.pinned (OpenSpec.upto actShutsSpec)

/-- 'heraldlaw12.ActChooses', WHERE WHAT IT READS IS OF BULK AT MOST 1048576: true; the input reads as it did. -/
def actChoosesUptoRow : OpenClaim := { program := "ytjcfhgpaipbedaa", sum := "de1f08c7a5bbc731e37793f1efd6a89edf22ff99d5d40d47ea3e367f3ed988fc", func := "herald/heraldlaw12.ActChooses", spec := "actChooses", unfollowed := true, recurses := true, apart := false, narrowed := true }
def ActChoosesUptoSaid : Prop := actChoosesUptoRow.holds Try.pinned (OpenSpec.upto actChoosesSpec)

/-- 'heraldlaw12.ActAlike', WHERE WHAT IT READS IS OF BULK AT MOST 1048576: true; the input reads as it did. -/
def actAlikeUptoRow : OpenClaim := { program := "ytjcfhgpaipbedaa", sum := "de1f08c7a5bbc731e37793f1efd6a89edf22ff99d5d40d47ea3e367f3ed988fc", func := "herald/heraldlaw12.ActAlike", spec := "actAlike", unfollowed := true, recurses := true, apart := false, narrowed := true }
def ActAlikeUptoSaid : Prop := actAlikeUptoRow.holds Try.pinned (OpenSpec.upto actAlikeSpec)

end Rows
end Go.Proofs.Ytjcfhgpaipbedaa
