-- Printed by this session's own driver (wip/tools/xprint.py) over the kit's printer; given functions are this session's own.
import Derived.Test.YtmcmkdpidppcaaaProg
import Derived.Below
import Derived.Deep.Draws
import Derived.Deep.AppendLies
import Derived.Maps.AppendAt
import Derived.OwnWalk
import Derived.Laws.BytesArg
import Derived.Laws.MakeOwn
import Derived.Laws.OwnMore
import Derived.Deep.OwnRows
import Derived.Tactics
import Derived.Lib.ConvBytes
import Derived.Laws.Slices
import Derived.WalkKit
import Derived.KernelRfl
import Derived.RowKit3
import Derived.Deep.LoopGhost
import Derived.Deep.QuietTactic
import Derived.BigQuiet
import Derived.WideLaws
import Derived.Deep.DeepCutAuto
import Derived.Deep.CutBlock
import Derived.Deep.RegionHeld3
import Derived.Laws.Rows
import Derived.Lib.AppendStr
import Derived.ArgAppend
import Derived.Laws.IdiomCopy
import Derived.OrdersHeld
import Derived.Laws.BitsLemmas
import Derived.RowKit
import Derived.Test.YtmcmkdpidppcaaaWWords
import Derived.Test.YtmcmkdpidppcaaaWLast
import Derived.Test.YtmcmkdpidppcaaaWTab
import Derived.Test.YtmcmkdpidppcaaaWFour
import Derived.Test.YtmcmkdpidppcaaaWQPut
import Derived.Test.YtmcmkdpidppcaaaWApart
import Derived.Test.YtmcmkdpidppcaaaWArr
import Derived.Test.YtmcmkdpidppcaaaWZeros
import Derived.Test.YtmcmkdpidppcaaaWFoot
import Derived.Test.YtmcmkdpidppcaaaWKept
import Derived.Test.YtmcmkdpidppcaaaWShare
import Derived.Test.YtmcmkdpidppcaaaWN
import Derived.Test.YtmcmkdpidppcaaaWFootNe
import Derived.Test.YtmcmkdpidppcaaaWAt
import Derived.Test.YtmcmkdpidppcaaaWEqStruct
import Derived.Test.YtmcmkdpidppcaaaWRepsOne
import Derived.Test.YtmcmkdpidppcaaaWInv
import Derived.Test.YtmcmkdpidppcaaaWInvWords
import Derived.Test.YtmcmkdpidppcaaaWGuard
import Derived.Test.YtmcmkdpidppcaaaWNEv
import Derived.Test.YtmcmkdpidppcaaaWMore
namespace Go.Proofs.Ytmcmkdpidppcaaa.E
open Go.RowKit Go.Proofs.YtmcmkdpidppcaaaW.PrintWords Go.Proofs.YtmcmkdpidppcaaaW.PrintLast Go.Proofs.YtmcmkdpidppcaaaW.PrintMore
attribute [local go_sem] max2_int min2_int max_two min_two max_three min_three max_four min_four   -- for this text's walks alone
set_option linter.unusedVariables false
set_option linter.unusedSimpArgs false



def errW : Option Int → Value
 | none => .nilIface
 | some c => .iface 0 (.int .i64 c)
theorem errW_none : errW none = .nilIface := rfl
theorem errW_some (c : Int) : errW (some c) = .iface 0 (.int .i64 c) := rfl

abbrev zA := @List.setIfInBounds_toArray
abbrev zB := @List.set_cons_zero
abbrev zC := @List.set_cons_succ
abbrev zD := @pw_below_drewN
abbrev zE := @below_drew1
abbrev zF := @blk_drewN
abbrev zG := @blk_alloc
abbrev zH := @blk_drew
abbrev zI := @below_set
abbrev zJ := @below_alloc
abbrev zK := @Aside0.mk
abbrev zL := @Kd.R_alloc
abbrev zM := @Kd.R_drewN
abbrev zN := @Kd.R_drew
abbrev zO := @blk_cell
abbrev zP := @blk_below
abbrev yA := @Option.bind_eq_some_iff
abbrev yB := @of_decide_eq_true
abbrev yC := @decide_eq_true
abbrev yD := @decide_eq_false
abbrev yE := @blk_frozen
abbrev yF := @List.length_take
abbrev yG := @List.length_drop
abbrev yH := @List.map_toArray
abbrev yI := @List.map_cons
abbrev yJ := @List.map_nil
abbrev yK := @below_size
abbrev yL := @below_step
abbrev yM := @Kd.R_reads'
abbrev yN := @Nat.le_refl
abbrev yO := @LeO.none
abbrev yP := @LeO.bind
abbrev yQ := @LeO.ite
abbrev yR := @LeO.refl
abbrev yS := @Kd.C_alloc
abbrev yT := @Kd.C_drewN
abbrev yU := @Kd.C_drew
abbrev yV := @Option.bind_some
abbrev yY := @Option.some.inj
abbrev yZ := @Option.some.injEq
abbrev ya := @Prod.mk.injEq
abbrev yb := @Kd.R_below
abbrev yc := @Kd.C_below
abbrev yd := @Kd.R_mono
abbrev yg := @eq_true
abbrev yh := @Bool.eq_false_iff
abbrev yj := @info_parts
abbrev yk := @Kd.R_elderB
abbrev yl := @Nat.le_trans
abbrev ym := @Nat.ne_of_lt
abbrev yn := @Nat.ne_of_gt
abbrev yo := @blk_lt
abbrev yp := @cell_far

-- the values' own types
/-! #### struct type 57 -/
structure S57 where
 f0 : Int
 f1 : Int
 f2 : Int
def z57 : S57 := ⟨(0 : Int), (0 : Int), (0 : Int)⟩
def k57 : Kd S57 := Kd.iso (Kd.pair (Kd.int .i64) (Kd.pair (Kd.int .i64) (Kd.int .i64))) (fun x : S57 => (x.f0, x.f1, x.f2))
theorem k57_open {w : World} {x : S57} {cs : List Value} (h : k57.K w x cs) : cs = [.int .i64 x.f0, .int .i64 x.f1, .int .i64 x.f2] := by
 obtain ⟨_, _, rfl, rfl, ⟨_, _, rfl, rfl, rfl⟩⟩ := h
 exact rfl
theorem k57_openM {w : World} {base : Nat} {ok : Nat → Prop} {x : S57} {cs : List Value} (h : k57.M w base ok x cs) : cs = [.int .i64 x.f0, .int .i64 x.f1, .int .i64 x.f2] := by
 obtain ⟨_, _, rfl, rfl, ⟨_, _, rfl, rfl, rfl⟩⟩ := h
 exact rfl
theorem k57_mk (w : World) (x : S57)  : k57.K w x [.int .i64 x.f0, .int .i64 x.f1, .int .i64 x.f2] := ⟨[.int .i64 x.f0], [.int .i64 x.f1, .int .i64 x.f2], rfl, rfl, ⟨[.int .i64 x.f1], [.int .i64 x.f2], rfl, rfl, rfl⟩⟩
theorem k57_mkM (w : World) (base : Nat) (ok : Nat → Prop) (x : S57)  : k57.M w base ok x [.int .i64 x.f0, .int .i64 x.f1, .int .i64 x.f2] := ⟨[.int .i64 x.f0], [.int .i64 x.f1, .int .i64 x.f2], rfl, rfl, ⟨[.int .i64 x.f1], [.int .i64 x.f2], rfl, rfl, rfl⟩⟩
def rd_T57 (xs : List S57) (i : Int) : S57 := xs.getD i.toNat z57
theorem at_T57 {w : World} {A : Option Addr} {n : Nat} {xs : List S57} (h : Kd.C k57 w A n xs) (i : Int) (h0 : 0 ≤ i) (h1 : i < n) : ∃ ad , A = some ad ∧ w.cell? (ad.add (i.toNat * 3)) = some (.int .i64 (rd_T57 xs i).f0) ∧ w.cell? ⟨(ad.add (i.toNat * 3)).block, (ad.add (i.toNat * 3)).off + 1, none⟩ = some (.int .i64 (rd_T57 xs i).f1) ∧ w.cell? ⟨(ad.add (i.toNat * 3)).block, (ad.add (i.toNat * 3)).off + 2, none⟩ = some (.int .i64 (rd_T57 xs i).f2) := by
 obtain ⟨ad, c, e, _, hK, hc0⟩ := Kd.C_get h z57 i h0 h1
 have hc : ∀ j u, c[j]? = some u → w.cell? (ad.add (i.toNat * 3 + j)) = some u := hc0
 obtain rfl := k57_open hK
 exact ⟨ad, e, hc 0 _ rfl, by rw [← add_field _ _ 1 (by omega)]; exact hc 1 _ rfl, by rw [← add_field _ _ 2 (by omega)]; exact hc 2 _ rfl⟩

def rd_L2 (xs : List (List S57)) (i : Int) : (List S57) := xs.getD i.toNat ([] : List S57)
theorem at_L2 {w : World} {A : Option Addr} {n : Nat} {xs : List (List S57)} (h : Kd.C (Kd.slice 57 k57) w A n xs) (i : Int) (h0 : 0 ≤ i) (h1 : i < n) : ∃ ad A0 c0, A = some ad ∧ w.cell? (ad.add i.toNat) = some (.slice A0 (rd_L2 xs i).length c0) ∧ (rd_L2 xs i).length ≤ c0 ∧ k57.C w A0 (rd_L2 xs i).length (rd_L2 xs i) := by
 obtain ⟨ad, c, e, _, hK, hc0⟩ := Kd.C_get h ([] : List S57) i h0 h1
 have hc : ∀ j u, c[j]? = some u → w.cell? (ad.add (i.toNat * 1 + j)) = some u := hc0
 obtain ⟨A0, c0, rfl, l0, g0⟩ := hK
 exact ⟨ad, A0, c0, e, by have hq := hc 0 _ rfl; rwa [Nat.mul_one, Nat.add_zero] at hq, l0, g0⟩

end Go.Proofs.Ytmcmkdpidppcaaa.E
