-- Printed by this session's own driver (wip/tools/xprint.py) over the kit's printer; given functions are this session's own.
import Derived.Test.YtgolghimefageaaProg
import Derived.Below
import Derived.Deep.Draws
import Derived.Deep.AppendLies
import Derived.Maps.AppendAt
import Derived.OwnWalk
import Derived.Laws.BytesArg
import Derived.Laws.MakeOwn
import Derived.Laws.OwnMore
import Derived.Deep.OwnRows
import Derived.Tactics
import Derived.Lib.ConvBytes
import Derived.Laws.Slices
import Derived.WalkKit
import Derived.KernelRfl
import Derived.RowKit3
import Derived.Deep.LoopGhost
import Derived.Deep.QuietTactic
import Derived.BigQuiet
import Derived.WideLaws
import Derived.Deep.DeepCutAuto
import Derived.Deep.CutBlock
import Derived.Deep.RegionHeld3
import Derived.Laws.Rows
import Derived.Lib.AppendStr
import Derived.ArgAppend
import Derived.Laws.IdiomCopy
import Derived.OrdersHeld
import Derived.Laws.BitsLemmas
import Derived.RowKit
import Derived.Test.YtgolghimefageaaWWords
import Derived.Test.YtgolghimefageaaWLast
import Derived.Test.YtgolghimefageaaWTab
import Derived.Test.YtgolghimefageaaWFour
import Derived.Test.YtgolghimefageaaWQPut
import Derived.Test.YtgolghimefageaaWApart
import Derived.Test.YtgolghimefageaaWArr
import Derived.Test.YtgolghimefageaaWZeros
import Derived.Test.YtgolghimefageaaWFoot
import Derived.Test.YtgolghimefageaaWKept
import Derived.Test.YtgolghimefageaaWShare
import Derived.Test.YtgolghimefageaaWN
import Derived.Test.YtgolghimefageaaWFootNe
import Derived.Test.YtgolghimefageaaWAt
import Derived.Test.YtgolghimefageaaWEqStruct
import Derived.Test.YtgolghimefageaaWRepsOne
import Derived.Test.YtgolghimefageaaWInv
import Derived.Test.YtgolghimefageaaWInvWords
import Derived.Test.YtgolghimefageaaWGuard
import Derived.Test.YtgolghimefageaaWNEv
import Derived.Test.YtgolghimefageaaWMore
namespace Go.Proofs.Ytgolghimefageaa.D
open Go.RowKit Go.Proofs.YtgolghimefageaaW.PrintWords Go.Proofs.YtgolghimefageaaW.PrintLast Go.Proofs.YtgolghimefageaaW.PrintMore
attribute [local go_sem] max2_int min2_int max_two min_two max_three min_three max_four min_four   -- for this text's walks alone
set_option linter.unusedVariables false
set_option linter.unusedSimpArgs false



def errW : Option Int → Value
 | none => .nilIface
 | some c => .iface 0 (.int .i64 c)
theorem errW_none : errW none = .nilIface := rfl
theorem errW_some (c : Int) : errW (some c) = .iface 0 (.int .i64 c) := rfl

abbrev zA := @List.setIfInBounds_toArray
abbrev zB := @List.set_cons_zero
abbrev zC := @List.set_cons_succ
abbrev zD := @pw_below_drewN
abbrev zE := @below_drew1
abbrev zF := @blk_drewN
abbrev zG := @blk_alloc
abbrev zH := @blk_drew
abbrev zI := @below_set
abbrev zJ := @below_alloc
abbrev zK := @Aside0.mk
abbrev zL := @Kd.R_alloc
abbrev zM := @Kd.R_drewN
abbrev zN := @Kd.R_drew
abbrev zO := @blk_cell
abbrev zP := @blk_below
abbrev yA := @Option.bind_eq_some_iff
abbrev yB := @of_decide_eq_true
abbrev yC := @decide_eq_true
abbrev yD := @decide_eq_false
abbrev yE := @blk_frozen
abbrev yF := @List.length_take
abbrev yG := @List.length_drop
abbrev yH := @List.map_toArray
abbrev yI := @List.map_cons
abbrev yJ := @List.map_nil
abbrev yK := @below_size
abbrev yL := @below_step
abbrev yM := @Kd.R_reads'
abbrev yN := @Nat.le_refl
abbrev yO := @LeO.none
abbrev yP := @LeO.bind
abbrev yQ := @LeO.ite
abbrev yR := @LeO.refl
abbrev yS := @Kd.C_alloc
abbrev yT := @Kd.C_drewN
abbrev yU := @Kd.C_drew
abbrev yV := @Option.bind_some
abbrev yY := @Option.some.inj
abbrev yZ := @Option.some.injEq
abbrev ya := @Prod.mk.injEq
abbrev yb := @Kd.R_below
abbrev yc := @Kd.C_below
abbrev yd := @Kd.R_mono
abbrev yg := @eq_true
abbrev yh := @Bool.eq_false_iff
abbrev yj := @info_parts
abbrev yk := @Kd.R_elderB
abbrev yl := @Nat.le_trans
abbrev ym := @Nat.ne_of_lt
abbrev yn := @Nat.ne_of_gt
abbrev yo := @blk_lt
abbrev yp := @cell_far

-- the values' own types
def rd_L1 (xs : List (List Int)) (i : Int) : (List Int) := xs.getD i.toNat ([] : List Int)
theorem at_L1 {w : World} {A : Option Addr} {n : Nat} {xs : List (List Int)} (h : Kd.C (Kd.slice 2 (Kd.int .i64)) w A n xs) (i : Int) (h0 : 0 ≤ i) (h1 : i < n) : ∃ ad A0 c0, A = some ad ∧ w.cell? (ad.add i.toNat) = some (.slice A0 (rd_L1 xs i).length c0) ∧ (rd_L1 xs i).length ≤ c0 ∧ (Kd.int .i64).C w A0 (rd_L1 xs i).length (rd_L1 xs i) := by
 obtain ⟨ad, c, e, _, hK, hc0⟩ := Kd.C_get h ([] : List Int) i h0 h1
 have hc : ∀ j u, c[j]? = some u → w.cell? (ad.add (i.toNat * 1 + j)) = some u := hc0
 obtain ⟨A0, c0, rfl, l0, g0⟩ := hK
 exact ⟨ad, A0, c0, e, by have hq := hc 0 _ rfl; rwa [Nat.mul_one, Nat.add_zero] at hq, l0, g0⟩

end Go.Proofs.Ytgolghimefageaa.D
