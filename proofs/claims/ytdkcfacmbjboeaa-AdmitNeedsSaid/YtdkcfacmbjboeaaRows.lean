/-
  No cell of these rows narrows 'for every input' (looked for: loops, veiled, ifaces, maps, wideKeys, modest, calm, conditions, laid).
  DERIVED. THE GIVEN ROWS OF THIS SEAT. 8 by the template 'for every input the law returns true; each argument reads behind the call as it read before'; 0 by the template 'total and deterministic' (their statements: YtdkcfacmbjboeaaTotals.lean).
  GIVEN WITH THE SEED: the statements are not yours to turn. If you find one false, say at which input.
  Laid BY PROGRAM, IN A SANDBOX (cutbox-rows.mjs): the forced cells as the released guide's own fill.sh prints them over the translation 3061a67acd9f4d53… (all of the seat's roots in one cut). By AI agents, Wed Nov 11 2026. No macro, syntax, notation, axiom, sorry.
-/
import Derived.Test.YtdkcfacmbjboeaaChecked
import GoSem.Claim
import GoSem.ClaimJoined
import GoSem.ClaimMapViews
import Derived.JoinedTies
import Derived.KernelRfl
namespace Go.Proofs.Ytdkcfacmbjboeaa
/- THE CELL 'sum', in the pinned program and in every row, IS THE sha256 OF THE DUMP (.gsa) THAT YtdkcfacmbjboeaaProg.lean LOADS. Nothing in Lean hashes anything: it is a label: what it is worth is what the hold of that sum in a sandbox is worth. -/
noncomputable def Try.pinned : Pinned := { name := "ytdkcfacmbjboeaa", sum := "3061a67acd9f4d53428f523f26a5c30937c6846ea28a00973f41a3cd7a3c9e92", checked := Try.checked }
namespace Rows
def none {H : Type} : Left H := { results := [], args := [] }

/-- 'heraldlaw27.AdmitChecks': WHATEVER THE INPUT: true; the input reads as it did. -/
def admitChecksSpec : ChangeSpec := { name := "admitChecks", fn := fun _ => fun
  | [d1, d2] => { results := [.lit (.bool true)], args := [d1, d2] }
  | _ => none }
def admitChecksRow : OpenClaim := { program := "ytdkcfacmbjboeaa", sum := "3061a67acd9f4d53428f523f26a5c30937c6846ea28a00973f41a3cd7a3c9e92", func := "herald/heraldlaw27.AdmitChecks", spec := "admitChecks", unfollowed := true, recurses := true, plainKeys := false, apart := false }
def AdmitChecksSaid : Prop := admitChecksRow.holds Try.pinned (OpenSpec.ofChange admitChecksSpec)

/-- ITS FALSE NEIGHBOUR: 'it returns false'. Refute it at one input. -/
def admitChecksWrong : ChangeSpec := { name := "admitChecks", fn := fun _ => fun
  | [d1, d2] => { results := [.lit (.bool false)], args := [d1, d2] }
  | _ => none }
def AdmitChecksWrongFalsely : Prop := admitChecksRow.holds Try.pinned (OpenSpec.ofChange admitChecksWrong)

/-- 'heraldlaw27.AdmitFits': WHATEVER THE INPUT: true; the input reads as it did. -/
def admitFitsSpec : ChangeSpec := { name := "admitFits", fn := fun _ => fun
  | [d1, d2] => { results := [.lit (.bool true)], args := [d1, d2] }
  | _ => none }
def admitFitsRow : OpenClaim := { program := "ytdkcfacmbjboeaa", sum := "3061a67acd9f4d53428f523f26a5c30937c6846ea28a00973f41a3cd7a3c9e92", func := "herald/heraldlaw27.AdmitFits", spec := "admitFits", unfollowed := true, recurses := true, plainKeys := false, apart := false }
def AdmitFitsSaid : Prop := admitFitsRow.holds Try.pinned (OpenSpec.ofChange admitFitsSpec)

/-- ITS FALSE NEIGHBOUR: 'it returns false'. Refute it at one input. -/
def admitFitsWrong : ChangeSpec := { name := "admitFits", fn := fun _ => fun
  | [d1, d2] => { results := [.lit (.bool false)], args := [d1, d2] }
  | _ => none }
def AdmitFitsWrongFalsely : Prop := admitFitsRow.holds Try.pinned (OpenSpec.ofChange admitFitsWrong)

/-- 'heraldlaw27.AdmitNeeds': WHATEVER THE INPUT: true; the input reads as it did. -/
def admitNeedsSpec : ChangeSpec := { name := "admitNeeds", fn := fun _ => fun
  | [d1, d2] => { results := [.lit (.bool true)], args := [d1, d2] }
  | _ => none }
def admitNeedsRow : OpenClaim := { program := "ytdkcfacmbjboeaa", sum := "3061a67acd9f4d53428f523f26a5c30937c6846ea28a00973f41a3cd7a3c9e92", func := "herald/heraldlaw27.AdmitNeeds", spec := "admitNeeds", unfollowed := true, recurses := true, plainKeys := false, apart := false }
def AdmitNeedsSaid : Prop := admitNeedsRow.holds Try.pinned (OpenSpec.ofChange admitNeedsSpec)

/-- ITS FALSE NEIGHBOUR: 'it returns false'. Refute it at one input. -/
def admitNeedsWrong : ChangeSpec := { name := "admitNeeds", fn := fun _ => fun
  | [d1, d2] => { results := [.lit (.bool false)], args := [d1, d2] }
  | _ => none }
def AdmitNeedsWrongFalsely : Prop := admitNeedsRow.holds Try.pinned (OpenSpec.ofChange admitNeedsWrong)

/-- 'heraldlaw27.AdmitModels': WHATEVER THE INPUT: true; the input reads as it did. -/
def admitModelsSpec : ChangeSpec := { name := "admitModels", fn := fun _ => fun
  | [d1, d2] => { results := [.lit (.bool true)], args := [d1, d2] }
  | _ => none }
def admitModelsRow : OpenClaim := { program := "ytdkcfacmbjboeaa", sum := "3061a67acd9f4d53428f523f26a5c30937c6846ea28a00973f41a3cd7a3c9e92", func := "herald/heraldlaw27.AdmitModels", spec := "admitModels", unfollowed := true, recurses := true, plainKeys := false, apart := false }
def AdmitModelsSaid : Prop := admitModelsRow.holds Try.pinned (OpenSpec.ofChange admitModelsSpec)

/-- ITS FALSE NEIGHBOUR: 'it returns false'. Refute it at one input. -/
def admitModelsWrong : ChangeSpec := { name := "admitModels", fn := fun _ => fun
  | [d1, d2] => { results := [.lit (.bool false)], args := [d1, d2] }
  | _ => none }
def AdmitModelsWrongFalsely : Prop := admitModelsRow.holds Try.pinned (OpenSpec.ofChange admitModelsWrong)

/-- 'heraldlaw27.AdmitRequests': WHATEVER THE INPUT: true; the input reads as it did. -/
def admitRequestsSpec : ChangeSpec := { name := "admitRequests", fn := fun _ => fun
  | [d1, d2, d3] => { results := [.lit (.bool true)], args := [d1, d2, d3] }
  | _ => none }
def admitRequestsRow : OpenClaim := { program := "ytdkcfacmbjboeaa", sum := "3061a67acd9f4d53428f523f26a5c30937c6846ea28a00973f41a3cd7a3c9e92", func := "herald/heraldlaw27.AdmitRequests", spec := "admitRequests", unfollowed := true, recurses := true, plainKeys := false, apart := false }
def AdmitRequestsSaid : Prop := admitRequestsRow.holds Try.pinned (OpenSpec.ofChange admitRequestsSpec)

/-- ITS FALSE NEIGHBOUR: 'it returns false'. Refute it at one input. -/
def admitRequestsWrong : ChangeSpec := { name := "admitRequests", fn := fun _ => fun
  | [d1, d2, d3] => { results := [.lit (.bool false)], args := [d1, d2, d3] }
  | _ => none }
def AdmitRequestsWrongFalsely : Prop := admitRequestsRow.holds Try.pinned (OpenSpec.ofChange admitRequestsWrong)

/-- 'heraldlaw27.AdmitMore': WHATEVER THE INPUT: true; the input reads as it did. -/
def admitMoreSpec : ChangeSpec := { name := "admitMore", fn := fun _ => fun
  | [d1, d2, d3] => { results := [.lit (.bool true)], args := [d1, d2, d3] }
  | _ => none }
def admitMoreRow : OpenClaim := { program := "ytdkcfacmbjboeaa", sum := "3061a67acd9f4d53428f523f26a5c30937c6846ea28a00973f41a3cd7a3c9e92", func := "herald/heraldlaw27.AdmitMore", spec := "admitMore", unfollowed := true, recurses := true, plainKeys := false, apart := false }
def AdmitMoreSaid : Prop := admitMoreRow.holds Try.pinned (OpenSpec.ofChange admitMoreSpec)

/-- ITS FALSE NEIGHBOUR: 'it returns false'. Refute it at one input. -/
def admitMoreWrong : ChangeSpec := { name := "admitMore", fn := fun _ => fun
  | [d1, d2, d3] => { results := [.lit (.bool false)], args := [d1, d2, d3] }
  | _ => none }
def AdmitMoreWrongFalsely : Prop := admitMoreRow.holds Try.pinned (OpenSpec.ofChange admitMoreWrong)

/-- 'heraldlaw27.AdmitGroups': WHATEVER THE INPUT: true; the input reads as it did. -/
def admitGroupsSpec : ChangeSpec := { name := "admitGroups", fn := fun _ => fun
  | [d1, d2] => { results := [.lit (.bool true)], args := [d1, d2] }
  | _ => none }
def admitGroupsRow : OpenClaim := { program := "ytdkcfacmbjboeaa", sum := "3061a67acd9f4d53428f523f26a5c30937c6846ea28a00973f41a3cd7a3c9e92", func := "herald/heraldlaw27.AdmitGroups", spec := "admitGroups", unfollowed := true, recurses := true, plainKeys := false, apart := false }
def AdmitGroupsSaid : Prop := admitGroupsRow.holds Try.pinned (OpenSpec.ofChange admitGroupsSpec)

/-- ITS FALSE NEIGHBOUR: 'it returns false'. Refute it at one input. -/
def admitGroupsWrong : ChangeSpec := { name := "admitGroups", fn := fun _ => fun
  | [d1, d2] => { results := [.lit (.bool false)], args := [d1, d2] }
  | _ => none }
def AdmitGroupsWrongFalsely : Prop := admitGroupsRow.holds Try.pinned (OpenSpec.ofChange admitGroupsWrong)

/-- 'heraldlaw27.AdmitPlans': WHATEVER THE INPUT: true; the input reads as it did. -/
def admitPlansSpec : ChangeSpec := { name := "admitPlans", fn := fun _ => fun
  | [d1, d2] => { results := [.lit (.bool true)], args := [d1, d2] }
  | _ => none }
def admitPlansRow : OpenClaim := { program := "ytdkcfacmbjboeaa", sum := "3061a67acd9f4d53428f523f26a5c30937c6846ea28a00973f41a3cd7a3c9e92", func := "herald/heraldlaw27.AdmitPlans", spec := "admitPlans", unfollowed := true, recurses := true, plainKeys := false, apart := false }
def AdmitPlansSaid : Prop := admitPlansRow.holds Try.pinned (OpenSpec.ofChange admitPlansSpec)

/-- ITS FALSE NEIGHBOUR: 'it returns false'. Refute it at one input. -/
def admitPlansWrong : ChangeSpec := { name := "admitPlans", fn := fun _ => fun
  | [d1, d2] => { results := [.lit (.bool false)], args := [d1, d2] }
  | _ => none }
def AdmitPlansWrongFalsely : Prop := admitPlansRow.holds Try.pinned (OpenSpec.ofChange admitPlansWrong)

/- THE SECOND FORM. 'bulk': how many values and letters a reading holds, each counted each time it is reached (what is shared counts as often as it is met; a slice's spare places count too). A statement '..UptoSaid' is the law's where the arguments, and the package variables that the reading takes, are together of bulk at most 1048576: NARROWER than '..Said'. Prove '..Said' where nothing that the law and all that it calls make is longer than what came in: it says more and counts as full. Else prove '..UptoSaid'. A law counts once. -/
mutual
def uptoBulk {H : Type} : DataW H → Nat
  | .lit (.string bytes) => bytes.length + 1
  | .lit _ => 1
  | .nil => 1
  | .ptr d => uptoBulk d + 1
  | .slice elems spare => uptoBulkAll elems + uptoBulkAll spare + 1
  | .agg parts => uptoBulkAll parts + 1
  | .iface _ d => uptoBulk d + 1
  | .map entries => uptoBulkEntries entries + 1
  | .held _ => 1
def uptoBulkAll {H : Type} : List (DataW H) → Nat
  | [] => 0
  | d :: r => uptoBulk d + uptoBulkAll r
def uptoBulkEntries {H : Type} : List (Lit × DataW H) → Nat
  | [] => 0
  | x :: r => uptoBulkEntry x + uptoBulkEntries r
def uptoBulkEntry {H : Type} : Lit × DataW H → Nat
  | (.string bytes, d) => bytes.length + uptoBulk d + 1
  | (_, d) => uptoBulk d + 1
 end
def uptoSmall : (H : Type) → List (DataW H) → Bool := fun _ ds => decide (uptoBulkAll ds ≤ 1048576)
def OpenSpec.upto (s : _root_.Go.ChangeSpec) : _root_.Go.OpenSpec := { _root_.Go.OpenSpec.ofChange s with cond := some uptoSmall }

/-- 'heraldlaw27.AdmitChecks', WHERE WHAT IT READS IS OF BULK AT MOST 1048576: true; the input reads as it did. -/
def admitChecksUptoRow : OpenClaim := { program := "ytdkcfacmbjboeaa", sum := "3061a67acd9f4d53428f523f26a5c30937c6846ea28a00973f41a3cd7a3c9e92", func := "herald/heraldlaw27.AdmitChecks", spec := "admitChecks", unfollowed := true, recurses := true, plainKeys := false, apart := false, narrowed := true }
def AdmitChecksUptoSaid : Prop := admitChecksUptoRow.holds Try.pinned (OpenSpec.upto admitChecksSpec)

/-- 'heraldlaw27.AdmitFits', WHERE WHAT IT READS IS OF BULK AT MOST 1048576: true; the input reads as it did. -/
def admitFitsUptoRow : OpenClaim := { program := "ytdkcfacmbjboeaa", sum := "3061a67acd9f4d53428f523f26a5c30937c6846ea28a00973f41a3cd7a3c9e92", func := "herald/heraldlaw27.AdmitFits", spec := "admitFits", unfollowed := true, recurses := true, plainKeys := false, apart := false, narrowed := true }
def AdmitFitsUptoSaid : Prop := admitFitsUptoRow.holds Try.pinned (OpenSpec.upto admitFitsSpec)

/-- 'heraldlaw27.AdmitNeeds', WHERE WHAT IT READS IS OF BULK AT MOST 1048576: true; the input reads as it did. -/
def admitNeedsUptoRow : OpenClaim := { program := "ytdkcfacmbjboeaa", sum := "3061a67acd9f4d53428f523f26a5c30937c6846ea28a00973f41a3cd7a3c9e92", func := "herald/heraldlaw27.AdmitNeeds", spec := "admitNeeds", unfollowed := true, recurses := true, plainKeys := false, apart := false, narrowed := true }
def AdmitNeedsUptoSaid : Prop := admitNeedsUptoRow.holds Try.pinned (OpenSpec.upto admitNeedsSpec)

/-- 'heraldlaw27.AdmitModels', WHERE WHAT IT READS IS OF BULK AT MOST 1048576: true; the input reads as it did. -/
def admitModelsUptoRow : OpenClaim := { program := "ytdkcfacmbjboeaa", sum := "3061a67acd9f4d53428f523f26a5c30937c6846ea28a00973f41a3cd7a3c9e92", func := "herald/heraldlaw27.AdmitModels", spec := "admitModels", unfollowed := true, recurses := true, plainKeys := false, apart := false, narrowed := true }
def AdmitModelsUptoSaid : Prop := admitModelsUptoRow.holds Try.pinned (OpenSpec.upto admitModelsSpec)

/-- 'heraldlaw27.AdmitRequests', WHERE WHAT IT READS IS OF BULK AT MOST 1048576: true; the input reads as it did. -/
def admitRequestsUptoRow : OpenClaim := { program := "ytdkcfacmbjboeaa", sum := "3061a67acd9f4d53428f523f26a5c30937c6846ea28a00973f41a3cd7a3c9e92", func := "herald/heraldlaw27.AdmitRequests", spec := "admitRequests", unfollowed := true, recurses := true, plainKeys := false, apart := false, narrowed := true }
def AdmitRequestsUptoSaid : Prop := admitRequestsUptoRow.holds Try.pinned (OpenSpec.upto admitRequestsSpec)

/-- 'heraldlaw27.AdmitMore', WHERE WHAT IT READS IS OF BULK AT MOST 1048576: true; the input reads as it did. -/
def admitMoreUptoRow : OpenClaim := { program := "ytdkcfacmbjboeaa", sum := "3061a67acd9f4d53428f523f26a5c30937c6846ea28a00973f41a3cd7a3c9e92", func := "herald/heraldlaw27.AdmitMore", spec := "admitMore", unfollowed := true, recurses := true, plainKeys := false, apart := false, narrowed := true }
def AdmitMoreUptoSaid : Prop := admitMoreUptoRow.holds Try.pinned (OpenSpec.upto admitMoreSpec)

/-- 'heraldlaw27.AdmitGroups', WHERE WHAT IT READS IS OF BULK AT MOST 1048576: true; the input reads as it did. -/
def admitGroupsUptoRow : OpenClaim := { program := "ytdkcfacmbjboeaa", sum := "3061a67acd9f4d53428f523f26a5c30937c6846ea28a00973f41a3cd7a3c9e92", func := "herald/heraldlaw27.AdmitGroups", spec := "admitGroups", unfollowed := true, recurses := true, plainKeys := false, apart := false, narrowed := true }
def AdmitGroupsUptoSaid : Prop := admitGroupsUptoRow.holds Try.pinned (OpenSpec.upto admitGroupsSpec)

/-- 'heraldlaw27.AdmitPlans', WHERE WHAT IT READS IS OF BULK AT MOST 1048576: true; the input reads as it did. -/
def admitPlansUptoRow : OpenClaim := { program := "ytdkcfacmbjboeaa", sum := "3061a67acd9f4d53428f523f26a5c30937c6846ea28a00973f41a3cd7a3c9e92", func := "herald/heraldlaw27.AdmitPlans", spec := "admitPlans", unfollowed := true, recurses := true, plainKeys := false, apart := false, narrowed := true }
def AdmitPlansUptoSaid : Prop := admitPlansUptoRow.holds Try.pinned (OpenSpec.upto admitPlansSpec)

end Rows
end Go.Proofs.Ytdkcfacmbjboeaa
