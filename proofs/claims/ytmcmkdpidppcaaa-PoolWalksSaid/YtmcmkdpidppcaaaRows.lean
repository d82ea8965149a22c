/-
  No cell of these rows narrows 'for every input' (looked for: loops, veiled, ifaces, maps, wideKeys, modest, calm, conditions, laid).
  DERIVED. THE GIVEN ROWS OF THIS SEAT. 6 by the template 'for every input the law returns true; each argument reads behind the call as it read before'; 0 by the template 'total and deterministic' (their statements: YtmcmkdpidppcaaaTotals.lean).
  GIVEN WITH THE SEED: the statements are not yours to turn. If you find one false, say at which input.
  Laid BY PROGRAM, IN A SANDBOX (cutbox-rows.mjs): the forced cells as the released guide's own fill.sh prints them over the translation 5800359798fd2a92… (all of the seat's roots in one cut). By AI agents, Wed Nov 11 2026. No macro, syntax, notation, axiom, sorry.
-/
import Derived.Test.YtmcmkdpidppcaaaChecked
import GoSem.Claim
import GoSem.ClaimJoined
import GoSem.ClaimMapViews
import Derived.JoinedTies
import Derived.KernelRfl
namespace Go.Proofs.Ytmcmkdpidppcaaa
/- THE CELL 'sum', in the pinned program and in every row, IS THE sha256 OF THE DUMP (.gsa) THAT YtmcmkdpidppcaaaProg.lean LOADS. Nothing in Lean hashes anything: it is a label: what it is worth is what the hold of that sum in a sandbox is worth. -/
noncomputable def Try.pinned : Pinned := { name := "ytmcmkdpidppcaaa", sum := "5800359798fd2a92900a3ca67cf658f98e5995f8bc76719f7a60c15fed937072", checked := Try.checked }
namespace Rows
def none {H : Type} : Left H := { results := [], args := [] }

/-- 'heraldlaw05.PoolKinds': WHATEVER THE INPUT: true; the input reads as it did. -/
def poolKindsSpec : ChangeSpec := { name := "poolKinds", fn := fun _ => fun
  | [d1, d2] => { results := [.lit (.bool true)], args := [d1, d2] }
  | _ => none }
def poolKindsRow : OpenClaim := { program := "ytmcmkdpidppcaaa", sum := "5800359798fd2a92900a3ca67cf658f98e5995f8bc76719f7a60c15fed937072", func := "herald/heraldlaw05.PoolKinds", spec := "poolKinds", unfollowed := true, recurses := true, apart := false }
def PoolKindsSaid : Prop := poolKindsRow.holds Try.pinned (OpenSpec.ofChange poolKindsSpec)

/-- ITS FALSE NEIGHBOUR: 'it returns false'. Refute it at one input. -/
def poolKindsWrong : ChangeSpec := { name := "poolKinds", fn := fun _ => fun
  | [d1, d2] => { results := [.lit (.bool false)], args := [d1, d2] }
  | _ => none }
def PoolKindsWrongFalsely : Prop := poolKindsRow.holds Try.pinned (OpenSpec.ofChange poolKindsWrong)

/-- 'heraldlaw05.PoolLeast': WHATEVER THE INPUT: true; the input reads as it did. -/
def poolLeastSpec : ChangeSpec := { name := "poolLeast", fn := fun _ => fun
  | [d1, d2] => { results := [.lit (.bool true)], args := [d1, d2] }
  | _ => none }
def poolLeastRow : OpenClaim := { program := "ytmcmkdpidppcaaa", sum := "5800359798fd2a92900a3ca67cf658f98e5995f8bc76719f7a60c15fed937072", func := "herald/heraldlaw05.PoolLeast", spec := "poolLeast", inPlace := ["slices.overlaps[int]"], unfollowed := true, recurses := true, apart := false }
def PoolLeastSaid : Prop := poolLeastRow.holds Try.pinned (OpenSpec.ofChange poolLeastSpec)

/-- ITS FALSE NEIGHBOUR: 'it returns false'. Refute it at one input. -/
def poolLeastWrong : ChangeSpec := { name := "poolLeast", fn := fun _ => fun
  | [d1, d2] => { results := [.lit (.bool false)], args := [d1, d2] }
  | _ => none }
def PoolLeastWrongFalsely : Prop := poolLeastRow.holds Try.pinned (OpenSpec.ofChange poolLeastWrong)

/-- 'heraldlaw05.PoolPlays': WHATEVER THE INPUT: true; the input reads as it did. -/
def poolPlaysSpec : ChangeSpec := { name := "poolPlays", fn := fun _ => fun
  | [d1, d2] => { results := [.lit (.bool true)], args := [d1, d2] }
  | _ => none }
def poolPlaysRow : OpenClaim := { program := "ytmcmkdpidppcaaa", sum := "5800359798fd2a92900a3ca67cf658f98e5995f8bc76719f7a60c15fed937072", func := "herald/heraldlaw05.PoolPlays", spec := "poolPlays", inPlace := ["slices.overlaps[int]"], unfollowed := true, recurses := true, apart := false }
def PoolPlaysSaid : Prop := poolPlaysRow.holds Try.pinned (OpenSpec.ofChange poolPlaysSpec)

/-- ITS FALSE NEIGHBOUR: 'it returns false'. Refute it at one input. -/
def poolPlaysWrong : ChangeSpec := { name := "poolPlays", fn := fun _ => fun
  | [d1, d2] => { results := [.lit (.bool false)], args := [d1, d2] }
  | _ => none }
def PoolPlaysWrongFalsely : Prop := poolPlaysRow.holds Try.pinned (OpenSpec.ofChange poolPlaysWrong)

/-- 'heraldlaw05.PoolTwo': WHATEVER THE INPUT: true; the input reads as it did. -/
def poolTwoSpec : ChangeSpec := { name := "poolTwo", fn := fun _ => fun
  | [d1, d2, d3] => { results := [.lit (.bool true)], args := [d1, d2, d3] }
  | _ => none }
def poolTwoRow : OpenClaim := { program := "ytmcmkdpidppcaaa", sum := "5800359798fd2a92900a3ca67cf658f98e5995f8bc76719f7a60c15fed937072", func := "herald/heraldlaw05.PoolTwo", spec := "poolTwo", inPlace := ["slices.overlaps[int]"], unfollowed := true, recurses := true, apart := false }
def PoolTwoSaid : Prop := poolTwoRow.holds Try.pinned (OpenSpec.ofChange poolTwoSpec)

/-- ITS FALSE NEIGHBOUR: 'it returns false'. Refute it at one input. -/
def poolTwoWrong : ChangeSpec := { name := "poolTwo", fn := fun _ => fun
  | [d1, d2, d3] => { results := [.lit (.bool false)], args := [d1, d2, d3] }
  | _ => none }
def PoolTwoWrongFalsely : Prop := poolTwoRow.holds Try.pinned (OpenSpec.ofChange poolTwoWrong)

/-- 'heraldlaw05.PoolWalks': WHATEVER THE INPUT: true; the input reads as it did. -/
def poolWalksSpec : ChangeSpec := { name := "poolWalks", fn := fun _ => fun
  | [d1, d2, d3] => { results := [.lit (.bool true)], args := [d1, d2, d3] }
  | _ => none }
def poolWalksRow : OpenClaim := { program := "ytmcmkdpidppcaaa", sum := "5800359798fd2a92900a3ca67cf658f98e5995f8bc76719f7a60c15fed937072", func := "herald/heraldlaw05.PoolWalks", spec := "poolWalks", inPlace := ["slices.overlaps[int]"], unfollowed := true, recurses := true, apart := false }
def PoolWalksSaid : Prop := poolWalksRow.holds Try.pinned (OpenSpec.ofChange poolWalksSpec)

/-- ITS FALSE NEIGHBOUR: 'it returns false'. Refute it at one input. -/
def poolWalksWrong : ChangeSpec := { name := "poolWalks", fn := fun _ => fun
  | [d1, d2, d3] => { results := [.lit (.bool false)], args := [d1, d2, d3] }
  | _ => none }
def PoolWalksWrongFalsely : Prop := poolWalksRow.holds Try.pinned (OpenSpec.ofChange poolWalksWrong)

/-- 'heraldlaw05.PoolNil': WHATEVER THE INPUT: true; the input reads as it did. -/
def poolNilSpec : ChangeSpec := { name := "poolNil", fn := fun _ => fun
  | [d1, d2] => { results := [.lit (.bool true)], args := [d1, d2] }
  | _ => none }
def poolNilRow : OpenClaim := { program := "ytmcmkdpidppcaaa", sum := "5800359798fd2a92900a3ca67cf658f98e5995f8bc76719f7a60c15fed937072", func := "herald/heraldlaw05.PoolNil", spec := "poolNil", inPlace := ["slices.overlaps[int]"], unfollowed := true, recurses := true, apart := false }
def PoolNilSaid : Prop := poolNilRow.holds Try.pinned (OpenSpec.ofChange poolNilSpec)

/-- ITS FALSE NEIGHBOUR: 'it returns false'. Refute it at one input. -/
def poolNilWrong : ChangeSpec := { name := "poolNil", fn := fun _ => fun
  | [d1, d2] => { results := [.lit (.bool false)], args := [d1, d2] }
  | _ => none }
def PoolNilWrongFalsely : Prop := poolNilRow.holds Try.pinned (OpenSpec.ofChange poolNilWrong)

/- THE SECOND FORM. 'bulk': how many values and letters a reading holds, each counted each time it is reached (what is shared counts as often as it is met; a slice's spare places count too). A statement '..UptoSaid' is the law's where the arguments, and the package variables that the reading takes, are together of bulk at most 1048576: NARROWER than '..Said'. Prove '..Said' where nothing that the law and all that it calls make is longer than what came in: it says more and counts as full. Else prove '..UptoSaid'. A law counts once. -/
mutual
def uptoBulk {H : Type} : DataW H → Nat
  | .lit (.string bytes) => bytes.length + 1
  | .lit _ => 1
  | .nil => 1
  | .ptr d => uptoBulk d + 1
  | .slice elems spare => uptoBulkAll elems + uptoBulkAll spare + 1
  | .agg parts => uptoBulkAll parts + 1
  | .iface _ d => uptoBulk d + 1
  | .map entries => uptoBulkEntries entries + 1
  | .held _ => 1
def uptoBulkAll {H : Type} : List (DataW H) → Nat
  | [] => 0
  | d :: r => uptoBulk d + uptoBulkAll r
def uptoBulkEntries {H : Type} : List (Lit × DataW H) → Nat
  | [] => 0
  | x :: r => uptoBulkEntry x + uptoBulkEntries r
def uptoBulkEntry {H : Type} : Lit × DataW H → Nat
  | (.string bytes, d) => bytes.length + uptoBulk d + 1
  | (_, d) => uptoBulk d + 1
 end
def uptoSmall : (H : Type) → List (DataW H) → Bool := fun _ ds => decide (uptoBulkAll ds ≤ 1048576)
def OpenSpec.upto (s : _root_.Go.ChangeSpec) : _root_.Go.OpenSpec := { _root_.Go.OpenSpec.ofChange s with cond := some uptoSmall }

/-- 'heraldlaw05.PoolKinds', WHERE WHAT IT READS IS OF BULK AT MOST 1048576: true; the input reads as it did. -/
def poolKindsUptoRow : OpenClaim := { program := "ytmcmkdpidppcaaa", sum := "5800359798fd2a92900a3ca67cf658f98e5995f8bc76719f7a60c15fed937072", func := "herald/heraldlaw05.PoolKinds", spec := "poolKinds", unfollowed := true, recurses := true, apart := false, narrowed := true }
def PoolKindsUptoSaid : Prop := poolKindsUptoRow.holds Try.pinned (OpenSpec.upto poolKindsSpec)

/-- 'heraldlaw05.PoolLeast', WHERE WHAT IT READS IS OF BULK AT MOST 1048576: true; the input reads as it did. -/
def poolLeastUptoRow : OpenClaim := { program := "ytmcmkdpidppcaaa", sum := "5800359798fd2a92900a3ca67cf658f98e5995f8bc76719f7a60c15fed937072", func := "herald/heraldlaw05.PoolLeast", spec := "poolLeast", inPlace := ["slices.overlaps[int]"], unfollowed := true, recurses := true, apart := false, narrowed := true }
def PoolLeastUptoSaid : Prop := poolLeastUptoRow.holds Try.pinned (OpenSpec.upto poolLeastSpec)

/-- 'heraldlaw05.PoolPlays', WHERE WHAT IT READS IS OF BULK AT MOST 1048576: true; the input reads as it did. -/
def poolPlaysUptoRow : OpenClaim := { program := "ytmcmkdpidppcaaa", sum := "5800359798fd2a92900a3ca67cf658f98e5995f8bc76719f7a60c15fed937072", func := "herald/heraldlaw05.PoolPlays", spec := "poolPlays", inPlace := ["slices.overlaps[int]"], unfollowed := true, recurses := true, apart := false, narrowed := true }
def PoolPlaysUptoSaid : Prop := poolPlaysUptoRow.holds Try.pinned (OpenSpec.upto poolPlaysSpec)

/-- 'heraldlaw05.PoolTwo', WHERE WHAT IT READS IS OF BULK AT MOST 1048576: true; the input reads as it did. -/
def poolTwoUptoRow : OpenClaim := { program := "ytmcmkdpidppcaaa", sum := "5800359798fd2a92900a3ca67cf658f98e5995f8bc76719f7a60c15fed937072", func := "herald/heraldlaw05.PoolTwo", spec := "poolTwo", inPlace := ["slices.overlaps[int]"], unfollowed := true, recurses := true, apart := false, narrowed := true }
def PoolTwoUptoSaid : Prop := poolTwoUptoRow.holds Try.pinned (OpenSpec.upto poolTwoSpec)

/-- 'heraldlaw05.PoolWalks', WHERE WHAT IT READS IS OF BULK AT MOST 1048576: true; the input reads as it did. -/
def poolWalksUptoRow : OpenClaim := { program := "ytmcmkdpidppcaaa", sum := "5800359798fd2a92900a3ca67cf658f98e5995f8bc76719f7a60c15fed937072", func := "herald/heraldlaw05.PoolWalks", spec := "poolWalks", inPlace := ["slices.overlaps[int]"], unfollowed := true, recurses := true, apart := false, narrowed := true }
def PoolWalksUptoSaid : Prop := poolWalksUptoRow.holds Try.pinned (OpenSpec.upto poolWalksSpec)

/-- 'heraldlaw05.PoolNil', WHERE WHAT IT READS IS OF BULK AT MOST 1048576: true; the input reads as it did. -/
def poolNilUptoRow : OpenClaim := { program := "ytmcmkdpidppcaaa", sum := "5800359798fd2a92900a3ca67cf658f98e5995f8bc76719f7a60c15fed937072", func := "herald/heraldlaw05.PoolNil", spec := "poolNil", inPlace := ["slices.overlaps[int]"], unfollowed := true, recurses := true, apart := false, narrowed := true }
def PoolNilUptoSaid : Prop := poolNilUptoRow.holds Try.pinned (OpenSpec.upto poolNilSpec)

end Rows
end Go.Proofs.Ytmcmkdpidppcaaa
