/- Several texts in one (CloneInt, CloneInt64, ContainsKit, ContainsInt64, ContainsBias, ExpPlain, Exp, DistPlain, Dist1, Dist2, RowKit, Dist3, HeatPlain, Heat). -/
import Derived.Shelf.RegionOpenPlain
import Derived.WalkKit
import Derived.Deep.LoopGhost
import Derived.Lib.Walk
import Derived.Lib.SliceRun
import Derived.Below
import Derived.Test.YthmckhfjaleomaaProg
import Derived.Test.YthmckhfjaleomaaKInvWordsMore
import Derived.Shelf.SlSortCmp.Kit1
import Derived.BigRegion
import Derived.Deep.QuietTactic
import Derived.LoopN
import Derived.Deep.WholeRow
import Derived.RowKit
/- slices.Clone at []int. -/
namespace Go.Proofs.Ythmckhfjaleomaa.St
open Go.Proofs Go.Shelf Go.RowKit Go.Lib Go.Proofs.YthmckhfjaleomaaW.PrintWords

set_option maxHeartbeats 2000000 in
set_option maxRecDepth 100000 in
theorem clone_int (A0 : Option Addr) (c0 : Nat) (l0 : List Int) (w : World) (hr0 : Kd.C (Kd.int .i64) w A0 l0.length l0) (hn : l0.length ≤ 17592186044416) :
  Calls Try.prog 75 #[.slice A0 l0.length c0] w fun e w' => ∃ v, e = .returned v ∧ Kd.R (Kd.int .i64) 3 w' w.heap.size (fun _ => True) v l0 ∧ Below w.heap.size w w' := by
 have mixed : Try.prog.follows .mixedOrders = true := by kernel_rfl
 have hinfo : (Try.prog.info? 3).map (fun i => (i.zero, i.size, i.bytes)) = some (some (.int .i64 0), 1, 8) := by kernel_rfl
 obtain ⟨i0, hi, hzz⟩ := Option.map_eq_some_iff.1 hinfo
 simp only [Prod.mk.injEq] at hzz
 obtain ⟨hz0, hz1, hz2⟩ := hzz
 have t22 := Try.underlying51
 have q22 : ∀ (w : World) (a : Option Addr) (n c n' c' : Nat), (binOp .eql 51 (.slice a n c) (.slice none n' c')).run Try.prog w = .ok (.bool a.isNone) w := fun w a n c n' c' => Lib.run_eql_slice_nil w _ _ a n c n' c' t22
 have get : ∀ i : Nat, i < l0.length → ∃ ad, A0 = some ad ∧ w.cell? (ad.add i) = some (.int .i64 (l0.getD i 0)) := by
  intro i hi
  obtain ⟨ad, c, e, _, hK, hc0⟩ := Kd.C_get hr0 0 (i : Int) (by omega) (by omega)
  have hK' : c = [.int .i64 (l0.getD i 0)] := by rw [Int.toNat_natCast] at hK; exact hK
  subst hK'
  have h := hc0 0 _ rfl
  rw [Int.toNat_natCast] at h
  exact ⟨ad, e, by rw [show i * (Kd.int .i64).sz + 0 = i by show i * 1 + 0 = i; omega] at h; exact h⟩
 have G : Aside (∀ i : Nat, i < l0.length → ∃ ad, A0 = some ad ∧ w.cell? (ad.add i) = some (.int .i64 (l0.getD i 0))) := get
 clear get hr0 hinfo
 cases A0 with
 | none =>
  have hl : Hid (l0 = []) := by
   cases l0 with
   | nil => exact rfl
   | cons x r => obtain ⟨_, e, _⟩ := G.out 0 (by simp); cases e
  go_enter Try.func75, Try.ntmps75
  go_wp2
  go_ret
  refine ⟨_, rfl, ?_, Below.refl _ _⟩
  rw [hl.out]
  exact Kd.R_nil _ _ _ _ _
 | some ad =>
  obtain ⟨b, off, sp⟩ := ad
  go_enter Try.func75, Try.ntmps75
  go_wp2_with (at_builtin; refine wpList_append_own _ rfl _ _ 51 rfl w.heap.size 3 i0 (.int .i64 0) 1 8 t22 hi hz0 hz1 hz2 rfl (by decide) _ _ _ rfl (World.ownsRow_made w #[] 0 (Nat.le_refl _) (Nat.zero_le _) rfl) ⟨b, off, sp⟩ l0.length c0 (l0.map (Value.int .i64)) rfl ?qc1 ?qc2 ?qc3 ?qc4 ?qc5 ?qc6 ?_)
  case qc1 => simp
  case qc2 =>
   intro j u hj
   have hjn : j < l0.length := by
    have := (List.getElem?_eq_some_iff.1 hj).1
    simpa using this
   obtain ⟨ad, e, h⟩ := G.out j hjn
   injection e with e
   subst e
   refine Lib.cell?_alloc_some _ ?_
   rw [h]
   have e : (l0.map (Value.int .i64))[j]? = some (Value.int .i64 (l0.getD j 0)) := by simp [List.getD, List.getElem?_eq_getElem hjn]
   rw [e] at hj
   exact hj
  case qc3 => intro u hu; obtain ⟨x, _, rfl⟩ := List.mem_map.1 hu; rfl
  case qc4 => unfold maxLen; omega
  case qc5 => omega
  case qc6 => simp
  intro v' w1 hown hgrow hnil
  go_wp2
  go_ret
  refine ⟨v', rfl, Kd.R_of_own (enc := Value.int .i64) ?_ (fun _ _ => trivial), ?_⟩
  ·simpa [encs] using hown
  ·exact ((Below.refl _ w).alloc (Nat.le_refl _) _).grown hgrow (by simp) (by intro k hk; simp [Value.ownBlock] at hk; omega)
end Go.Proofs.Ythmckhfjaleomaa.St
/- slices.Clone at []int64. -/
namespace Go.Proofs.Ythmckhfjaleomaa.St
open Go.Proofs Go.Shelf Go.RowKit Go.Lib Go.Proofs.YthmckhfjaleomaaW.PrintWords

set_option maxHeartbeats 2000000 in
set_option maxRecDepth 100000 in
theorem clone_int64 (A0 : Option Addr) (c0 : Nat) (l0 : List Int) (w : World) (hr0 : Kd.C (Kd.int .i64) w A0 l0.length l0) (hn : l0.length ≤ 17592186044416) :
  Calls Try.prog 58 #[.slice A0 l0.length c0] w fun e w' => ∃ v, e = .returned v ∧ Kd.R (Kd.int .i64) 2 w' w.heap.size (fun _ => True) v l0 ∧ Below w.heap.size w w' := by
 have mixed : Try.prog.follows .mixedOrders = true := by kernel_rfl
 have hinfo : (Try.prog.info? 2).map (fun i => (i.zero, i.size, i.bytes)) = some (some (.int .i64 0), 1, 8) := by kernel_rfl
 obtain ⟨i0, hi, hzz⟩ := Option.map_eq_some_iff.1 hinfo
 simp only [Prod.mk.injEq] at hzz
 obtain ⟨hz0, hz1, hz2⟩ := hzz
 have t22 := Try.underlying36
 have q22 : ∀ (w : World) (a : Option Addr) (n c n' c' : Nat), (binOp .eql 36 (.slice a n c) (.slice none n' c')).run Try.prog w = .ok (.bool a.isNone) w := fun w a n c n' c' => Lib.run_eql_slice_nil w _ _ a n c n' c' t22
 have get : ∀ i : Nat, i < l0.length → ∃ ad, A0 = some ad ∧ w.cell? (ad.add i) = some (.int .i64 (l0.getD i 0)) := by
  intro i hi
  obtain ⟨ad, c, e, _, hK, hc0⟩ := Kd.C_get hr0 0 (i : Int) (by omega) (by omega)
  have hK' : c = [.int .i64 (l0.getD i 0)] := by rw [Int.toNat_natCast] at hK; exact hK
  subst hK'
  have h := hc0 0 _ rfl
  rw [Int.toNat_natCast] at h
  exact ⟨ad, e, by rw [show i * (Kd.int .i64).sz + 0 = i by show i * 1 + 0 = i; omega] at h; exact h⟩
 have G : Aside (∀ i : Nat, i < l0.length → ∃ ad, A0 = some ad ∧ w.cell? (ad.add i) = some (.int .i64 (l0.getD i 0))) := get
 clear get hr0 hinfo
 cases A0 with
 | none =>
  have hl : Hid (l0 = []) := by
   cases l0 with
   | nil => exact rfl
   | cons x r => obtain ⟨_, e, _⟩ := G.out 0 (by simp); cases e
  go_enter Try.func58, Try.ntmps58
  go_wp2
  go_ret
  refine ⟨_, rfl, ?_, Below.refl _ _⟩
  rw [hl.out]
  exact Kd.R_nil _ _ _ _ _
 | some ad =>
  obtain ⟨b, off, sp⟩ := ad
  go_enter Try.func58, Try.ntmps58
  go_wp2_with (at_builtin; refine wpList_append_own _ rfl _ _ 36 rfl w.heap.size 2 i0 (.int .i64 0) 1 8 t22 hi hz0 hz1 hz2 rfl (by decide) _ _ _ rfl (World.ownsRow_made w #[] 0 (Nat.le_refl _) (Nat.zero_le _) rfl) ⟨b, off, sp⟩ l0.length c0 (l0.map (Value.int .i64)) rfl ?qc1 ?qc2 ?qc3 ?qc4 ?qc5 ?qc6 ?_)
  case qc1 => simp
  case qc2 =>
   intro j u hj
   have hjn : j < l0.length := by
    have := (List.getElem?_eq_some_iff.1 hj).1
    simpa using this
   obtain ⟨ad, e, h⟩ := G.out j hjn
   injection e with e
   subst e
   refine Lib.cell?_alloc_some _ ?_
   rw [h]
   have e : (l0.map (Value.int .i64))[j]? = some (Value.int .i64 (l0.getD j 0)) := by simp [List.getD, List.getElem?_eq_getElem hjn]
   rw [e] at hj
   exact hj
  case qc3 => intro u hu; obtain ⟨x, _, rfl⟩ := List.mem_map.1 hu; rfl
  case qc4 => unfold maxLen; omega
  case qc5 => omega
  case qc6 => simp
  intro v' w1 hown hgrow hnil
  go_wp2
  go_ret
  refine ⟨v', rfl, Kd.R_of_own (enc := Value.int .i64) ?_ (fun _ _ => trivial), ?_⟩
  ·simpa [encs] using hown
  ·exact ((Below.refl _ w).alloc (Nat.le_refl _) _).grown hgrow (by simp) (by intro k hk; simp [Value.ownBlock] at hk; omega)
end Go.Proofs.Ythmckhfjaleomaa.St
/- what ContainsFunc's walks share. -/
namespace Go.Proofs.Ythmckhfjaleomaa.St
open Go.Proofs Go.Shelf Go.RowKit Go.Lib Go.Sort Go.Proofs.YthmckhfjaleomaaW.PrintWords
theorem reads_row {k : IntKind} {w : World} {A0 : Option Addr} {l0 : List Int} (hr0 : Kd.C (Kd.int k) w A0 l0.length l0) : ∀ i : Nat, i < l0.length → ∃ ad, A0 = some ad ∧ w.cell? (ad.add i) = some (.int k (l0.getD i 0)) := by
 intro i hi
 obtain ⟨ad, c, e, _, hK, hc0⟩ := Kd.C_get hr0 0 (i : Int) (by omega) (by omega)
 have hK' : c = [.int k (l0.getD i 0)] := by rw [Int.toNat_natCast] at hK; exact hK
 subst hK'
 have h := hc0 0 _ rfl
 rw [Int.toNat_natCast] at h
 exact ⟨ad, e, by rw [show i * (Kd.int k).sz + 0 = i by show i * 1 + 0 = i; omega] at h; exact h⟩
theorem cell_grown {w : World} {a : Addr} {v : Value} (h : w.cell? a = some v) (q : Nat) (os : Array Obj) : (grow (w.drewN q) os).cell? a = some v := by
 have hlt : a.block < w.heap.size := by
  unfold World.cell? at h
  rcases Nat.lt_or_ge a.block w.heap.size with h2 | h2
  ·exact h2
  ·rw [Array.getElem?_eq_none h2] at h; cases h
 rw [cell?_grow (w.drewN q) os a hlt]
 exact h
/-- the place of the first for which pf holds, from the i-th on; -1: there is none. -/
def idxF {α : Type} (pf : α → Bool) : List α → Nat → Int
 | [], _ => -1
 | x :: r, i => if pf x = true then (i : Int) else idxF pf r (i + 1)
theorem idxF_any {α : Type} (pf : α → Bool) : ∀ (l : List α) (i : Nat), decide (0 ≤ idxF pf l i) = l.any pf
 | [], i => by simp [idxF]
 | x :: r, i => by
  rw [idxF, List.any_cons]
  by_cases h : pf x = true
  ·rw [if_pos h, h]
   simp
  ·rw [if_neg h, idxF_any pf r (i + 1)]
   simp [h]
end Go.Proofs.Ythmckhfjaleomaa.St
/- slices.ContainsFunc at []int64, for a closure that tells a plain function of the element. -/
namespace Go.Proofs.Ythmckhfjaleomaa.St
open Go.Proofs Go.Shelf Go.RowKit Go.Lib Go.Sort Go.Proofs.YthmckhfjaleomaaW.PrintWords
set_option maxHeartbeats 1000000 in
set_option maxRecDepth 1000000 in
theorem index_int64 (A0 : Option Addr) (c0 : Nat) (l0 : List Int) (w : World) (hr0 : Kd.C (Kd.int .i64) w A0 l0.length l0) (hn : l0.length ≤ 17592186044416) (g : Nat) (cb : Array Value) (pf : Int → Bool)
  (eg : ∀ args w, (callFunc g args).run Try.prog w = .ok (.enter g args) w)
  (hf : ∀ q os (x : Int), x ∈ l0 → Calls Try.prog g (#[.int .i64 x] ++ cb) (grow (w.drewN q) os) fun e w' => e = .returned (.bool (pf x)) ∧ ∃ q' os', w' = grow ((grow (w.drewN q) os).drewN q') os') :
  Calls Try.prog 70 #[.slice A0 l0.length c0, .func (.func g) #[] cb] w fun e w' => e = .returned (.int .i64 (idxF pf l0 0)) ∧ ∃ q os, w' = grow (w.drewN q) os := by
 have mixed : Try.prog.follows .mixedOrders = true := by kernel_rfl
 have R : Aside (∀ i : Nat, i < l0.length → ∃ ad, A0 = some ad ∧ w.cell? (ad.add i) = some (.int .i64 (l0.getD i 0))) := reads_row hr0
 have HF : Aside (∀ q os (x : Int), x ∈ l0 → Calls Try.prog g (#[.int .i64 x] ++ cb) (grow (w.drewN q) os) fun e w' => e = .returned (.bool (pf x)) ∧ ∃ q' os', w' = grow ((grow (w.drewN q) os).drewN q') os') := hf
 clear hr0 hf
 go_enter Try.func70, Try.ntmps70
 go_wp2
 go_loopg [8] l0.length (fun kx s8 wr => ∃ i : Nat, s8 = .int .i64 i ∧ i ≤ l0.length ∧ l0.length - i ≤ kx ∧ Aside (∃ q os, wr = grow (w.drewN q) os) ∧ Hid (idxF pf (l0.drop i) i = idxF pf l0 0))
 case atStart => exact ⟨0, rfl, by omega, by omega, ⟨0, #[], by rw [grow_empty]; rfl⟩, rfl⟩
 case round =>
  obtain ⟨i, rfl, hi, hkx, HW, HE⟩ := hrel
  obtain ⟨q, os, rfl⟩ := HW.out
  clear HW
  by_cases hlt : i < l0.length
  ·have hltz : (i : Int) < (l0.length : Int) := by omega
   obtain ⟨ad, rfl, hc⟩ := R.out i hlt
   have hc2 := cell_grown hc q os
   have hd : l0.drop i = l0.getD i 0 :: l0.drop (i + 1) := by
    rw [List.drop_eq_getElem_cons hlt, List.getD_eq_getElem?_getD, List.getElem?_eq_getElem hlt]; rfl
   have hm : l0.getD i 0 ∈ l0 := by
    rw [List.getD_eq_getElem?_getD, List.getElem?_eq_getElem hlt]; exact List.getElem_mem _
   have HE0 := HE.out
   rw [hd, idxF] at HE0
   have HX := HF.out q os _ hm
   clear HE hd hc hm
   obtain ⟨x, hx⟩ : ∃ x, x = l0.getD i 0 := ⟨_, rfl⟩
   rw [← hx] at HE0 hc2 HX
   have HX2 : Aside (Calls Try.prog g (#[.int .i64 x] ++ cb) (grow (w.drewN q) os) fun e w' => e = .returned (.bool (pf x)) ∧ ∃ q' os', w' = grow ((grow (w.drewN q) os).drewN q') os') := HX
   clear hx HX
   cases hp : pf x with
   | true =>
    have HE2 : Hid (idxF pf l0 0 = (i : Int)) := by rw [if_pos hp] at HE0; exact HE0.symm
    rw [hp] at HX2
    clear HE0 hp
    go_wp2_with fail
    ((with_reducible refine HX2.out.mono ?_))
    rintro e' w2 ⟨rfl, q', os', rfl⟩
    go_wp2
    go_ret
    rw [HE2.out]
    exact ⟨rfl, q + q', os ++ os', by show grow (grow ((w.drewN q).drewN q') os) os' = _; rw [grow_grow, World.drewN_drewN]⟩
   | false =>
    have HE2 : Hid (idxF pf (l0.drop (i + 1)) (i + 1) = idxF pf l0 0) := by rw [if_neg (by rw [hp]; decide)] at HE0; exact HE0
    rw [hp] at HX2
    clear HE0 hp
    go_wp2_with fail
    ((with_reducible refine HX2.out.mono ?_))
    rintro e' w2 ⟨rfl, q', os', rfl⟩
    have HW2 : Aside (∃ q1 os1, grow ((grow (w.drewN q) os).drewN q') os' = grow (w.drewN q1) os1) := ⟨q + q', os ++ os', by show grow (grow ((w.drewN q).drewN q') os) os' = _; rw [grow_grow, World.drewN_drewN]⟩
    clear hc2
    generalize grow ((grow (w.drewN q) os).drewN q') os' = w2 at HW2 ⊢
    have HW3 : Aside (∀ k, ∃ q1 os1, w2.drewN k = grow (w.drewN q1) os1) := by
     intro k
     obtain ⟨q1, os1, h⟩ := HW2.out
     exact ⟨q1 + k, os1, by rw [h]; show grow ((w.drewN q1).drewN k) os1 = _; rw [World.drewN_drewN]⟩
    go_wp2
    go_roundg (l0.length - (i + 1))
    case measure => omega
    case rel => exact ⟨i + 1, by go_num, by omega, Nat.le_refl _, by first | exact HW2 | exact HW3.out _, HE2⟩
  ·have hltz : ¬ (i : Int) < (l0.length : Int) := by omega
   have HE2 : Hid (idxF pf l0 0 = -1) := by
    have h := HE.out
    rw [List.drop_eq_nil_of_le (by omega)] at h
    exact h.symm
   clear HE
   go_wp2
   go_ret
   rw [HE2.out]
   exact ⟨rfl, q, os, rfl⟩
set_option maxRecDepth 1000000 in
theorem contains_int64 (A0 : Option Addr) (c0 : Nat) (l0 : List Int) (w : World) (hr0 : Kd.C (Kd.int .i64) w A0 l0.length l0) (hn : l0.length ≤ 17592186044416) (g : Nat) (cb : Array Value) (pf : Int → Bool)
  (eg : ∀ args w, (callFunc g args).run Try.prog w = .ok (.enter g args) w)
  (hf : ∀ q os (x : Int), x ∈ l0 → Calls Try.prog g (#[.int .i64 x] ++ cb) (grow (w.drewN q) os) fun e w' => e = .returned (.bool (pf x)) ∧ ∃ q' os', w' = grow ((grow (w.drewN q) os).drewN q') os') :
  Calls Try.prog 38 #[.slice A0 l0.length c0, .func (.func g) #[] cb] w fun e w' => e = .returned (.bool (l0.any pf)) ∧ ∃ q os, w' = grow (w.drewN q) os := by
 have mixed : Try.prog.follows .mixedOrders = true := by kernel_rfl
 have h := idxF_any pf l0 0
 have HA : Hid (decide (0 ≤ idxF pf l0 0) = l0.any pf) := h
 go_enter Try.func38, Try.ntmps38
 go_wp2_with fail
 ((with_reducible refine (index_int64 A0 c0 l0 w hr0 hn g cb pf eg hf).mono ?_))
 rintro e' w2 ⟨rfl, q, os, rfl⟩
 clear h
 clear hf hr0
 generalize idxF pf l0 0 = v at HA ⊢
 have HA1 : decide (0 ≤ v) = l0.any pf := HA.out
 go_wp2
 go_ret
 exact ⟨by first | rfl | (rw [HA1]; rfl) | (simp [HA1]; done), q, os, rfl⟩
end Go.Proofs.Ythmckhfjaleomaa.St
/- slices.ContainsFunc at []api.Bias, for a closure that tells a plain function of the element. -/
namespace Go.Proofs.Ythmckhfjaleomaa.St
open Go.Proofs Go.Shelf Go.RowKit Go.Lib Go.Sort Go.Proofs.YthmckhfjaleomaaW.PrintWords
/-- the cells of a row of pairs. -/
def Pairs (w : World) (A0 : Option Addr) (l0 : List (Int × Int)) : Prop := ∀ i : Nat, i < l0.length → ∃ ad, A0 = some ad ∧ w.cell? (ad.add (i * 2)) = some (.int .i64 (l0.getD i (0, 0)).1) ∧ w.cell? ⟨(ad.add (i * 2)).block, (ad.add (i * 2)).off + 1, none⟩ = some (.int .i64 (l0.getD i (0, 0)).2)
set_option maxHeartbeats 1000000 in
set_option maxRecDepth 1000000 in
theorem index_bias (A0 : Option Addr) (c0 : Nat) (l0 : List (Int × Int)) (w : World) (hr0 : Pairs w A0 l0) (hn : l0.length ≤ 17592186044416) (g : Nat) (cb : Array Value) (pf : Int × Int → Bool)
  (eg : ∀ args w, (callFunc g args).run Try.prog w = .ok (.enter g args) w)
  (hf : ∀ q os (x : Int × Int), x ∈ l0 → Calls Try.prog g (#[.agg #[.int .i64 x.1, .int .i64 x.2]] ++ cb) (grow (w.drewN q) os) fun e w' => e = .returned (.bool (pf x)) ∧ ∃ q' os', w' = grow ((grow (w.drewN q) os).drewN q') os') :
  Calls Try.prog 68 #[.slice A0 l0.length c0, .func (.func g) #[] cb] w fun e w' => e = .returned (.int .i64 (idxF pf l0 0)) ∧ ∃ q os, w' = grow (w.drewN q) os := by
 have mixed : Try.prog.follows .mixedOrders = true := by kernel_rfl
 have R : Aside (Pairs w A0 l0) := hr0
 have HF : Aside (∀ q os (x : Int × Int), x ∈ l0 → Calls Try.prog g (#[.agg #[.int .i64 x.1, .int .i64 x.2]] ++ cb) (grow (w.drewN q) os) fun e w' => e = .returned (.bool (pf x)) ∧ ∃ q' os', w' = grow ((grow (w.drewN q) os).drewN q') os') := hf
 clear hr0 hf
 go_enter Try.func68, Try.ntmps68
 go_wp2
 go_loopg [8] l0.length (fun kx s8 wr => ∃ i : Nat, s8 = .int .i64 i ∧ i ≤ l0.length ∧ l0.length - i ≤ kx ∧ Aside (∃ q os, wr = grow (w.drewN q) os) ∧ Hid (idxF pf (l0.drop i) i = idxF pf l0 0))
 case atStart => exact ⟨0, rfl, by omega, by omega, ⟨0, #[], by rw [grow_empty]; rfl⟩, rfl⟩
 case round =>
  obtain ⟨i, rfl, hi, hkx, HW, HE⟩ := hrel
  obtain ⟨q, os, rfl⟩ := HW.out
  clear HW
  by_cases hlt : i < l0.length
  ·have hltz : (i : Int) < (l0.length : Int) := by omega
   obtain ⟨ad, rfl, hc, hc1⟩ := R.out i hlt
   have hc2 := cell_grown hc q os
   have hc3 := cell_grown hc1 q os
   have hd : l0.drop i = l0.getD i (0, 0) :: l0.drop (i + 1) := by
    rw [List.drop_eq_getElem_cons hlt, List.getD_eq_getElem?_getD, List.getElem?_eq_getElem hlt]; rfl
   have hm : l0.getD i (0, 0) ∈ l0 := by
    rw [List.getD_eq_getElem?_getD, List.getElem?_eq_getElem hlt]; exact List.getElem_mem _
   have HE0 := HE.out
   rw [hd, idxF] at HE0
   have HX := HF.out q os _ hm
   clear HE hd hc hm hc1
   obtain ⟨x, hx⟩ : ∃ x, x = l0.getD i (0, 0) := ⟨_, rfl⟩
   rw [← hx] at HE0 hc2 hc3 HX
   have HX2 : Aside (Calls Try.prog g (#[.agg #[.int .i64 x.1, .int .i64 x.2]] ++ cb) (grow (w.drewN q) os) fun e w' => e = .returned (.bool (pf x)) ∧ ∃ q' os', w' = grow ((grow (w.drewN q) os).drewN q') os') := HX
   clear hx HX
   cases hp : pf x with
   | true =>
    have HE2 : Hid (idxF pf l0 0 = (i : Int)) := by rw [if_pos hp] at HE0; exact HE0.symm
    rw [hp] at HX2
    clear HE0 hp
    go_wp2_with fail
    ((with_reducible refine HX2.out.mono ?_))
    rintro e' w2 ⟨rfl, q', os', rfl⟩
    go_wp2
    go_ret
    rw [HE2.out]
    exact ⟨rfl, q + q', os ++ os', by show grow (grow ((w.drewN q).drewN q') os) os' = _; rw [grow_grow, World.drewN_drewN]⟩
   | false =>
    have HE2 : Hid (idxF pf (l0.drop (i + 1)) (i + 1) = idxF pf l0 0) := by rw [if_neg (by rw [hp]; decide)] at HE0; exact HE0
    rw [hp] at HX2
    clear HE0 hp
    go_wp2_with fail
    ((with_reducible refine HX2.out.mono ?_))
    rintro e' w2 ⟨rfl, q', os', rfl⟩
    have HW2 : Aside (∃ q1 os1, grow ((grow (w.drewN q) os).drewN q') os' = grow (w.drewN q1) os1) := ⟨q + q', os ++ os', by show grow (grow ((w.drewN q).drewN q') os) os' = _; rw [grow_grow, World.drewN_drewN]⟩
    clear hc2
    generalize grow ((grow (w.drewN q) os).drewN q') os' = w2 at HW2 ⊢
    have HW3 : Aside (∀ k, ∃ q1 os1, w2.drewN k = grow (w.drewN q1) os1) := by
     intro k
     obtain ⟨q1, os1, h⟩ := HW2.out
     exact ⟨q1 + k, os1, by rw [h]; show grow ((w.drewN q1).drewN k) os1 = _; rw [World.drewN_drewN]⟩
    go_wp2
    go_roundg (l0.length - (i + 1))
    case measure => omega
    case rel => exact ⟨i + 1, by go_num, by omega, Nat.le_refl _, by first | exact HW2 | exact HW3.out _, HE2⟩
  ·have hltz : ¬ (i : Int) < (l0.length : Int) := by omega
   have HE2 : Hid (idxF pf l0 0 = -1) := by
    have h := HE.out
    rw [List.drop_eq_nil_of_le (by omega)] at h
    exact h.symm
   clear HE
   go_wp2
   go_ret
   rw [HE2.out]
   exact ⟨rfl, q, os, rfl⟩
set_option maxRecDepth 1000000 in
theorem contains_bias (A0 : Option Addr) (c0 : Nat) (l0 : List (Int × Int)) (w : World) (hr0 : Pairs w A0 l0) (hn : l0.length ≤ 17592186044416) (g : Nat) (cb : Array Value) (pf : Int × Int → Bool)
  (eg : ∀ args w, (callFunc g args).run Try.prog w = .ok (.enter g args) w)
  (hf : ∀ q os (x : Int × Int), x ∈ l0 → Calls Try.prog g (#[.agg #[.int .i64 x.1, .int .i64 x.2]] ++ cb) (grow (w.drewN q) os) fun e w' => e = .returned (.bool (pf x)) ∧ ∃ q' os', w' = grow ((grow (w.drewN q) os).drewN q') os') :
  Calls Try.prog 34 #[.slice A0 l0.length c0, .func (.func g) #[] cb] w fun e w' => e = .returned (.bool (l0.any pf)) ∧ ∃ q os, w' = grow (w.drewN q) os := by
 have mixed : Try.prog.follows .mixedOrders = true := by kernel_rfl
 have h := idxF_any pf l0 0
 have HA : Hid (decide (0 ≤ idxF pf l0 0) = l0.any pf) := h
 go_enter Try.func34, Try.ntmps34
 go_wp2_with fail
 ((with_reducible refine (index_bias A0 c0 l0 w hr0 hn g cb pf eg hf).mono ?_))
 rintro e' w2 ⟨rfl, q, os, rfl⟩
 clear h
 clear hf hr0
 generalize idxF pf l0 0 = v at HA ⊢
 have HA1 : decide (0 ≤ v) = l0.any pf := HA.out
 go_wp2
 go_ret
 exact ⟨by first | rfl | (rw [HA1]; rfl) | (simp [HA1]; done), q, os, rfl⟩
end Go.Proofs.Ythmckhfjaleomaa.St
/- fixed.Exp2, fixed.Floor in plain Lean. -/
namespace Go.Proofs.Ythmckhfjaleomaa.St
def stepF (c y t : Int) : Int := c + Int.tdiv (y * t) 65536
def expY (t : Int) : Int := stepF 1073741824 (stepF 747400624 (stepF 241400000 84941200 t) t) t
/-- 2^(x / 65536) times 2^30. -/
def expF (x : Int) : Int := if min x 0 / 65536 ≤ -31 then 0 else expY (min x 0 % 65536) / 2 ^ (-(min x 0 / 65536)).toNat
theorem step_bounds (c y t b : Int) (hy : 0 ≤ y ∧ y ≤ b) (ht : 0 ≤ t ∧ t < 65536) : 0 ≤ y * t ∧ y * t ≤ b * 65536 ∧ c ≤ stepF c y t ∧ stepF c y t ≤ c + b := by
 have h1 : 0 ≤ y * t := Int.mul_nonneg hy.1 ht.1
 have h2 : y * t ≤ b * 65536 := Int.mul_le_mul hy.2 (by omega) ht.1 (by omega)
 refine ⟨h1, h2, ?_, ?_⟩
 ·unfold stepF
  have := Int.tdiv_nonneg h1 (show (0 : Int) ≤ 65536 by omega)
  omega
 ·unfold stepF
  rw [Int.tdiv_eq_ediv_of_nonneg h1]
  have := Int.ediv_le_ediv (show (0 : Int) < 65536 by omega) h2
  rw [Int.mul_ediv_cancel _ (by omega)] at this
  omega
theorem tmod_bounds (x d : Int) (hd : 0 < d) : d * Int.tdiv x d + Int.tmod x d = x ∧ -d < Int.tmod x d ∧ Int.tmod x d < d := by
 refine ⟨Int.mul_tdiv_add_tmod x d, ?_, Int.tmod_lt_of_pos x hd⟩
 rcases Int.lt_or_le x 0 with c | c
 ·have h := Int.tmod_lt_of_pos (-x) hd
  rw [Int.neg_tmod] at h
  omega
 ·have := Int.tmod_nonneg d c
  omega
theorem floor_neg (x : Int) (h : Int.tmod x 65536 < 0) : Int.tdiv x 65536 - 1 = x / 65536 ∧ Int.tmod x 65536 + 65536 = x % 65536 := by
 have := tmod_bounds x 65536 (by omega)
 omega
theorem floor_pos (x : Int) (h : ¬ Int.tmod x 65536 < 0) : Int.tdiv x 65536 = x / 65536 ∧ Int.tmod x 65536 = x % 65536 := by
 have := tmod_bounds x 65536 (by omega)
 omega
end Go.Proofs.Ythmckhfjaleomaa.St
/- fixed.Exp2: its walk. -/
namespace Go.Proofs.Ythmckhfjaleomaa.St
open Go.Proofs Go.RowKit Go.Proofs.YthmckhfjaleomaaW.PrintWords Go.Proofs.YthmckhfjaleomaaW.PrintLast Go.Proofs.YthmckhfjaleomaaW.PrintMore

set_option maxRecDepth 1000000 in
theorem floor_calls (x : Int) (w : World) (hx : -9223372036854775808 ≤ x ∧ x ≤ 9223372036854775807) : Calls Try.prog 72 #[.int .i64 x, .int .i64 65536] w fun e w' => e = .returned (.tuple #[.int .i64 (x / 65536), .int .i64 (x % 65536), .int .i64 0]) ∧ ∃ q, w' = w.drewN q := by
 have mixed : Try.prog.follows .mixedOrders = true := by kernel_rfl
 have hb := tmod_bounds x 65536 (by omega)
 have hq1 : -9223372036854775808 < Int.tdiv x 65536 := by omega
 have hq2 : Int.tdiv x 65536 ≤ 9223372036854775807 := by omega
 have hr : -65536 < Int.tmod x 65536 := by omega
 have hr2 : Int.tmod x 65536 < 65536 := by omega
 clear hb
 by_cases h : Int.tmod x 65536 < 0
 ·obtain ⟨e1, e2⟩ := floor_neg x h
  rw [← e1, ← e2]
  clear e1 e2
  generalize hqq : Int.tdiv x 65536 = q at *
  generalize hrr : Int.tmod x 65536 = r at *
  go_enter Try.func72, Try.ntmps72
  go_wp2
  go_quiet (fail)
  go_wp2
  go_ret3
  exact ⟨rfl, _, rfl⟩
 ·obtain ⟨e1, e2⟩ := floor_pos x h
  rw [← e1, ← e2]
  clear e1 e2
  generalize hqq : Int.tdiv x 65536 = q at *
  generalize hrr : Int.tmod x 65536 = r at *
  go_enter Try.func72, Try.ntmps72
  go_wp2
  go_quiet (fail)
  go_wp2
  go_ret3
  exact ⟨rfl, _, rfl⟩

attribute [local go_sem] max2_int min2_int max_two min_two
set_option maxHeartbeats 1000000 in
set_option maxRecDepth 1000000 in
theorem exp_calls (x : Int) (w : World) (hx : -9223372036854775808 ≤ x ∧ x ≤ 9223372036854775807) : Calls Try.prog 73 #[.int .i64 x] w fun e w' => e = .returned (.int .i64 (expF x)) ∧ Below w.heap.size w w' := by
 have mixed : Try.prog.follows .mixedOrders = true := by kernel_rfl
 have hb0 : Below w.heap.size w w := Below.refl _ _
 have HW : Aside (∀ q o, Below w.heap.size w ((w.drewN q).alloc o)) := fun q o => Below.alloc (B := w.heap.size) (a := w) (w := w.drewN q) ⟨rfl, rfl, rfl, Nat.le_refl _, fun _ _ => rfl⟩ (Nat.le_refl _) o
 have HQ : Aside (∀ q, Below w.heap.size w (w.drewN q)) := fun q => ⟨rfl, rfl, rfl, Nat.le_refl _, fun _ _ => rfl⟩
 have hE : Hid (expF x = if min x 0 / 65536 ≤ -31 then 0 else expY (min x 0 % 65536) / 2 ^ (-(min x 0 / 65536)).toNat) := by show _ = _; rw [expF]
 have hm1 : min x 0 ≤ 0 := by omega
 have hm2 : -9223372036854775808 ≤ min x 0 := by omega
 obtain ⟨m, hif⟩ : ∃ m, (if (0 : Int) < x then (0 : Int) else x) = m := ⟨_, rfl⟩
 have hm : min x 0 = m := by rw [← hif]; split <;> omega
 rw [hm] at hE hm1 hm2
 clear hb0 hm
 go_enter Try.func73, Try.ntmps73
 go_wp2_with fail
 ((with_reducible refine (floor_calls m _ (by omega)).mono ?_))
 rintro e' w1 ⟨rfl, q, rfl⟩
 have ht1 : 0 ≤ m % 65536 := by omega
 have ht2 : m % 65536 < 65536 := by omega
 have hq1 : m / 65536 ≤ 0 := by omega
 generalize m % 65536 = t at *
 generalize m / 65536 = q1 at *
 by_cases hle : q1 ≤ -31
 ·have hR : Hid (expF x = 0) := by show _ = _; rw [hE.out, if_pos hle]
  clear hE
  go_wp2
  go_ret
  rw [hR.out]
  exact ⟨rfl, HQ.out _⟩
 ·have hR : Hid (expF x = expY t / 2 ^ (-q1).toNat) := by show _ = _; rw [hE.out, if_neg hle]
  clear hE
  have hi4 : (Try.prog.info? 112).map (fun i => (i.zero, i.size)) = some (some (.agg #[.int .i64 0, .int .i64 0, .int .i64 0, .int .i64 0]), 4) := by kernel_rfl
  obtain ⟨hz4, hs4⟩ := zero_of_info hi4
  have hg : ((w.drewN q).alloc (.cells #[.int .i64 0, .int .i64 0, .int .i64 0, .int .i64 0] 112)).heap[w.heap.size]? = some (.cells #[.int .i64 0, .int .i64 0, .int .i64 0, .int .i64 0] 112 (0, 0)) := heap_alloc_last (w.drewN q) _
  have hset : ((w.drewN q).alloc (.cells #[.int .i64 0, .int .i64 0, .int .i64 0, .int .i64 0] 112)).setRow w.heap.size #[.int .i64 84941200, .int .i64 241400000, .int .i64 747400624, .int .i64 1073741824] = (w.drewN q).alloc (.cells #[.int .i64 84941200, .int .i64 241400000, .int .i64 747400624, .int .i64 1073741824] 112) := World.setRow_alloc_new (w.drewN q) _ _ _
  have hrow : ((w.drewN q).alloc (.cells #[.int .i64 84941200, .int .i64 241400000, .int .i64 747400624, .int .i64 1073741824] 112)).heap[w.heap.size]? = some (.cells #[.int .i64 84941200, .int .i64 241400000, .int .i64 747400624, .int .i64 1073741824] 112 (0, 0)) := heap_alloc_last (w.drewN q) _
  have c0 : ((w.drewN q).alloc (.cells #[.int .i64 84941200, .int .i64 241400000, .int .i64 747400624, .int .i64 1073741824] 112)).cell? ⟨w.heap.size, 0, none⟩ = some (.int .i64 84941200) := (cell_of_row _ _ 0 _ _ _ hrow).trans rfl
  have c1 : ((w.drewN q).alloc (.cells #[.int .i64 84941200, .int .i64 241400000, .int .i64 747400624, .int .i64 1073741824] 112)).cell? ⟨w.heap.size, 1, none⟩ = some (.int .i64 241400000) := (cell_of_row _ _ 1 _ _ _ hrow).trans rfl
  have c2 : ((w.drewN q).alloc (.cells #[.int .i64 84941200, .int .i64 241400000, .int .i64 747400624, .int .i64 1073741824] 112)).cell? ⟨w.heap.size, 2, none⟩ = some (.int .i64 747400624) := (cell_of_row _ _ 2 _ _ _ hrow).trans rfl
  have c3 : ((w.drewN q).alloc (.cells #[.int .i64 84941200, .int .i64 241400000, .int .i64 747400624, .int .i64 1073741824] 112)).cell? ⟨w.heap.size, 3, none⟩ = some (.int .i64 1073741824) := (cell_of_row _ _ 3 _ _ _ hrow).trans rfl
  have hb1 := HW.out q (.cells #[.int .i64 84941200, .int .i64 241400000, .int .i64 747400624, .int .i64 1073741824] 112)
  have HB : Aside (∀ k, Below w.heap.size w (((w.drewN q).alloc (.cells #[.int .i64 84941200, .int .i64 241400000, .int .i64 747400624, .int .i64 1073741824] 112)).drewN k)) := fun k => ⟨hb1.os, hb1.tape, hb1.output, hb1.size, hb1.block⟩
  clear hb1
  have hall : (#[.int .i64 84941200, .int .i64 241400000, .int .i64 747400624, .int .i64 1073741824] : Array Value).all (·.oneCell') = true := by simp [Value.oneCell']
  clear hi4
  go_wp2_with (refine wpList_store_row rfl 112 _ _ rfl w.heap.size #[.int .i64 84941200, .int .i64 241400000, .int .i64 747400624, .int .i64 1073741824] rfl rfl 112 #[.int .i64 0, .int .i64 0, .int .i64 0, .int .i64 0] hg hs4 rfl hall ?_; rw [hset])
  clear hset hg hall hs4 hz4
  generalize (w.drewN q).alloc (.cells #[.int .i64 84941200, .int .i64 241400000, .int .i64 747400624, .int .i64 1073741824] 112) = W2 at c0 c1 c2 c3 HB hrow ⊢
  clear hrow
  have b1 := step_bounds 241400000 84941200 t 84941200 (by omega) ⟨ht1, ht2⟩
  have b2 := step_bounds 747400624 (stepF 241400000 84941200 t) t 326341200 (by omega) ⟨ht1, ht2⟩
  have b3 := step_bounds 1073741824 (stepF 747400624 (stepF 241400000 84941200 t) t) t 1073741824 (by omega) ⟨ht1, ht2⟩
  have hY : Hid (expY t = stepF 1073741824 (stepF 747400624 (stepF 241400000 84941200 t) t) t) := rfl
  rw [hY.out] at hR
  clear hY
  obtain ⟨y1, hy1⟩ : ∃ y, y = stepF 241400000 84941200 t := ⟨_, rfl⟩
  rw [← hy1] at b1 b2 b3 hR
  obtain ⟨y2, hy2⟩ : ∃ y, y = stepF 747400624 y1 t := ⟨_, rfl⟩
  rw [← hy2] at b2 b3 hR
  obtain ⟨y3, hy3⟩ : ∃ y, y = stepF 1073741824 y2 t := ⟨_, rfl⟩
  rw [← hy3] at b3 hR
  unfold stepF at hy1 hy2 hy3
  obtain ⟨p1, hp1⟩ : ∃ p, (84941200 : Int) * t = p := ⟨_, rfl⟩
  obtain ⟨p2, hp2⟩ : ∃ p, y1 * t = p := ⟨_, rfl⟩
  obtain ⟨p3, hp3⟩ : ∃ p, y2 * t = p := ⟨_, rfl⟩
  rw [hp1] at hy1 b1
  rw [hp2] at hy2 b2
  rw [hp3] at hy3 b3
  obtain ⟨d1, hd1⟩ : ∃ d, Int.tdiv p1 65536 = d := ⟨_, rfl⟩
  obtain ⟨d2, hd2⟩ : ∃ d, Int.tdiv p2 65536 = d := ⟨_, rfl⟩
  obtain ⟨d3, hd3⟩ : ∃ d, Int.tdiv p3 65536 = d := ⟨_, rfl⟩
  rw [hd1] at hy1
  rw [hd2] at hy2
  rw [hd3] at hy3
  obtain ⟨b11, b12, b13, b14⟩ := b1
  obtain ⟨b21, b22, b23, b24⟩ := b2
  obtain ⟨b31, b32, b33, b34⟩ := b3
  have g1 : 0 ≤ d1 := by omega
  have g2 : 0 ≤ d2 := by omega
  have g3 : 0 ≤ d3 := by omega
  have g4 : d1 ≤ 84941200 := by omega
  have g5 : d2 ≤ 326341200 := by omega
  have g6 : d3 ≤ 1073741824 := by omega
  have hy1' : 241400000 + d1 = y1 := hy1.symm
  have hy2' : 747400624 + d2 = y2 := hy2.symm
  have hy3' : 1073741824 + d3 = y3 := hy3.symm
  clear hy1 hy2 hy3
  refine wp_loop_rounds 4 ?_
  rw [rounds_succ]
  go_wp2
  rw [rounds_succ]
  go_wp2
  rw [rounds_succ]
  go_wp2
  rw [rounds_succ]
  have n1 : 0 ≤ -q1 := by omega
  have n2 : -q1 < 64 := by omega
  go_wp2
  go_ret
  rw [hR.out]
  exact ⟨rfl, HB.out 0⟩
end Go.Proofs.Ythmckhfjaleomaa.St
/- dist in plain Lean. -/
namespace Go.Proofs.Ythmckhfjaleomaa.St
def wrongS (x : Int) : Bool := decide (x < -1073741824) || decide (x > 1073741824)
def scoredL (l : List Int) : Bool := decide (1 ≤ l.length ∧ l.length ≤ 512) && !l.any wrongS
def badB (tokens : Int) (before : List (Int × Int)) (b : Int × Int) : Bool := !(decide (0 ≤ b.1) && decide (b.1 ≤ tokens - 1)) || decide (b.2 < -1048576) || decide (b.2 > 1048576) || before.any (fun a => a.1 == b.1)
def goodBias (tokens : Int) (l : List (Int × Int)) : Nat → Nat → Bool
 | 0, _ => true
 | d + 1, i => if badB tokens (l.take i) (l.getD i (0, 0)) = true then false else goodBias tokens l d (i + 1)
def rangeOk (a0 a1 a2 a3 tokens : Int) : Prop := (1 ≤ tokens ∧ tokens ≤ 512) ∧ (0 ≤ a0 ∧ a0 ≤ 65536) ∧ (1 ≤ a1 ∧ a1 ≤ 65536) ∧ (0 ≤ a2 ∧ a2 ≤ tokens) ∧ (1 ≤ a3 ∧ a3 ≤ 65536)
instance (a0 a1 a2 a3 tokens : Int) : Decidable (rangeOk a0 a1 a2 a3 tokens) := by unfold rangeOk; infer_instance
def checkL (a0 a1 a2 a3 tokens T : Int) (l : List (Int × Int)) : Int := if ¬ rangeOk a0 a1 a2 a3 tokens ∨ T = 0 ∨ 64 < l.length then 220 else if goodBias tokens l l.length 0 = true then 0 else 220
end Go.Proofs.Ythmckhfjaleomaa.St
/- dist.scored and the closures that tell a wrong score. -/
namespace Go.Proofs.Ythmckhfjaleomaa.St
open Go.Proofs Go.Shelf Go.RowKit Go.Lib Go.Sort Go.Proofs.YthmckhfjaleomaaW.PrintWords

set_option maxRecDepth 1000000 in
theorem wrong1_calls (x : Int) (w : World) : Calls Try.prog 37 (#[.int .i64 x] ++ #[]) w fun e w' => e = .returned (.bool (wrongS x)) ∧ ∃ q os, w' = grow (w.drewN q) os := by
 show Calls Try.prog 37 #[.int .i64 x] w _
 have mixed : Try.prog.follows .mixedOrders = true := by kernel_rfl
 by_cases h : x < -1073741824
 ·have h1 : decide (x < -1073741824) = true := decide_eq_true h
  have hw : Hid (wrongS x = true) := by show _ = _; unfold wrongS; simp [h]
  go_enter Try.func37, Try.ntmps37
  go_wp2
  go_ret
  rw [hw.out]
  exact ⟨rfl, 0, #[], by rw [grow_empty]; rfl⟩
 ·have h1 : decide (x < -1073741824) = false := decide_eq_false h
  have hw : Hid (wrongS x = decide (x > 1073741824)) := by show _ = _; unfold wrongS; simp [h]
  go_enter Try.func37, Try.ntmps37
  go_wp2
  go_ret
  rw [hw.out]
  exact ⟨rfl, 0, #[], by rw [grow_empty]; rfl⟩
set_option maxRecDepth 1000000 in
theorem between_calls (n lo hi : Int) (b : Bool) (hb : b = (decide (lo ≤ n) && decide (n ≤ hi))) (w : World) : Calls Try.prog 33 #[.int .i64 n, .int .i64 lo, .int .i64 hi] w fun e w' => e = .returned (.bool b) ∧ ∃ q, w' = w.drewN q := by
 subst hb
 have mixed : Try.prog.follows .mixedOrders = true := by kernel_rfl
 by_cases h : lo ≤ n
 ·have h1 : decide (n ≥ lo) = true := decide_eq_true h
  have h2 : decide (lo ≤ n) = true := decide_eq_true h
  go_enter Try.func33, Try.ntmps33
  go_wp2
  go_ret
  exact ⟨by first | rfl | (rw [h2]; rfl), 0, rfl⟩
 ·have h1 : decide (n ≥ lo) = false := decide_eq_false h
  have h2 : decide (lo ≤ n) = false := decide_eq_false h
  go_enter Try.func33, Try.ntmps33
  go_wp2
  go_ret
  exact ⟨by first | rfl | (rw [h2]; rfl), 0, rfl⟩

end Go.Proofs.Ythmckhfjaleomaa.St
/- dist.Check. -/
namespace Go.Proofs.Ythmckhfjaleomaa.St
open Go.Proofs Go.Shelf Go.RowKit Go.Lib Go.Sort Go.Proofs.YthmckhfjaleomaaW.PrintWords

set_option maxRecDepth 1000000 in
theorem check1_calls (gb : Nat) (a : Int × Int) (x1 : Int) (W : World) (h0 : W.cell? ⟨gb, 0, none⟩ = some (.int .i64 x1)) :
  Calls Try.prog 35 (#[.agg #[.int .i64 a.1, .int .i64 a.2]] ++ #[.pointer (some ⟨gb, 0, none⟩)]) W fun e w' => e = .returned (.bool (a.1 == x1)) ∧ ∃ q os, w' = grow (W.drewN q) os := by
 show Calls Try.prog 35 #[.agg #[.int .i64 a.1, .int .i64 a.2], .pointer (some ⟨gb, 0, none⟩)] W _
 have mixed : Try.prog.follows .mixedOrders = true := by kernel_rfl
 have hlt : gb < W.heap.size := by
  unfold World.cell? at h0
  rcases Nat.lt_or_ge gb W.heap.size with h2 | h2
  ·exact h2
  ·rw [Array.getElem?_eq_none h2] at h0; cases h0
 have h1 : ∀ o, (W.alloc o).cell? ⟨gb, 0, none⟩ = some (.int .i64 x1) := fun o => by
  rw [alloc_eq_grow, cell?_grow W _ _ hlt]; exact h0
 go_enter Try.func35, Try.ntmps35
 go_wp2
 go_ret
 first
  | exact ⟨rfl, 0, #[], by rw [grow_empty]; rfl⟩
  | exact ⟨rfl, _, #[_], by rw [← alloc_eq_grow]; rfl⟩
  | exact ⟨rfl, 0, #[_], by rw [← alloc_eq_grow]; rfl⟩

set_option maxHeartbeats 4000000 in
set_option maxRecDepth 1000000 in
theorem check_calls (a0 a1 a2 a3 a4 : Int) (A5 : Option Addr) (c5 : Nat) (l5 : List (Int × Int)) (tokens T : Int) (w : World) (hP : Pairs w A5 l5) (hn : l5.length ≤ 17592186044416) (hcap : l5.length ≤ c5)
  (hT : ∀ W, Below w.heap.size w W → Calls Try.prog 17 #[.agg #[.int .i64 a0, .int .i64 a1, .int .i64 a2, .int .i64 a3, .int .i64 a4, .slice A5 l5.length c5]] W fun e w' => e = .returned (.int .i64 T) ∧ Below W.heap.size W w') :
  Calls Try.prog 14 #[.agg #[.int .i64 a0, .int .i64 a1, .int .i64 a2, .int .i64 a3, .int .i64 a4, .slice A5 l5.length c5], .int .i64 tokens] w fun e w' => e = .returned (.int .i64 (checkL a0 a1 a2 a3 tokens T l5)) ∧ Below w.heap.size w w' := by
 have mixed : Try.prog.follows .mixedOrders = true := by kernel_rfl
 have hba : Below w.heap.size w (w.alloc (.cells #[.int .i64 a0, .int .i64 a1, .int .i64 a2, .int .i64 a3, .int .i64 a4, .slice A5 l5.length c5] 24)) := (Below.refl _ w).alloc (Nat.le_refl _) _
 have HQ : Aside (∀ q, Below w.heap.size w ((w.alloc (.cells #[.int .i64 a0, .int .i64 a1, .int .i64 a2, .int .i64 a3, .int .i64 a4, .slice A5 l5.length c5] 24)).drewN q)) := fun q => ⟨hba.os, hba.tape, hba.output, hba.size, hba.block⟩
 clear hba
 have HT : Aside (∀ W, Below w.heap.size w W → Calls Try.prog 17 #[.agg #[.int .i64 a0, .int .i64 a1, .int .i64 a2, .int .i64 a3, .int .i64 a4, .slice A5 l5.length c5]] W fun e w' => e = .returned (.int .i64 T) ∧ Below W.heap.size W w') := hT
 have HP : Aside (Pairs w A5 l5) := hP
 clear hT hP
 by_cases r0 : 1 ≤ tokens ∧ tokens ≤ 512
 case neg =>
  have hs : Hid (checkL a0 a1 a2 a3 tokens T l5 = 220) := by show _ = _; unfold checkL; rw [if_pos (Or.inl (fun h => r0 (by unfold rangeOk at h; exact h.1)))]
  have hb : (decide (1 ≤ tokens) && decide (tokens ≤ 512)) = false := by rw [← Bool.decide_and]; exact decide_eq_false r0
  clear HT HP r0
  go_enter Try.func14, Try.ntmps14
  go_wp2_with fail
  ((with_reducible refine (between_calls _ _ _ false ?_ _).mono ?_))
  ·exact hb.symm
  rintro e' w' ⟨rfl, q0, rfl⟩
  go_wp2
  go_ret
  rw [hs.out]
  exact ⟨rfl, HQ.out _⟩
 by_cases r1 : 0 ≤ a0 ∧ a0 ≤ 65536
 case neg =>
  have hs : Hid (checkL a0 a1 a2 a3 tokens T l5 = 220) := by show _ = _; unfold checkL; rw [if_pos (Or.inl (fun h => r1 (by unfold rangeOk at h; exact h.2.1)))]
  have hb : (decide (0 ≤ a0) && decide (a0 ≤ 65536)) = false := by rw [← Bool.decide_and]; exact decide_eq_false r1
  clear HT HP r1
  go_enter Try.func14, Try.ntmps14
  go_wp2_with fail
  ((with_reducible refine (between_calls _ _ _ true ?_ _).mono ?_))
  ·rw [decide_eq_true r0.1, decide_eq_true r0.2]; rfl
  rintro e' w' ⟨rfl, q0, rfl⟩
  go_wp2_with fail
  ((with_reducible refine (between_calls _ _ _ false ?_ _).mono ?_))
  ·exact hb.symm
  rintro e' w' ⟨rfl, q1, rfl⟩
  go_wp2
  go_ret
  rw [hs.out]
  exact ⟨rfl, HQ.out _⟩
 by_cases r2 : 1 ≤ a1 ∧ a1 ≤ 65536
 case neg =>
  have hs : Hid (checkL a0 a1 a2 a3 tokens T l5 = 220) := by show _ = _; unfold checkL; rw [if_pos (Or.inl (fun h => r2 (by unfold rangeOk at h; exact h.2.2.1)))]
  have hb : (decide (1 ≤ a1) && decide (a1 ≤ 65536)) = false := by rw [← Bool.decide_and]; exact decide_eq_false r2
  clear HT HP r2
  go_enter Try.func14, Try.ntmps14
  go_wp2_with fail
  ((with_reducible refine (between_calls _ _ _ true ?_ _).mono ?_))
  ·rw [decide_eq_true r0.1, decide_eq_true r0.2]; rfl
  rintro e' w' ⟨rfl, q0, rfl⟩
  go_wp2_with fail
  ((with_reducible refine (between_calls _ _ _ true ?_ _).mono ?_))
  ·rw [decide_eq_true r1.1, decide_eq_true r1.2]; rfl
  rintro e' w' ⟨rfl, q1, rfl⟩
  go_wp2_with fail
  ((with_reducible refine (between_calls _ _ _ false ?_ _).mono ?_))
  ·exact hb.symm
  rintro e' w' ⟨rfl, q2, rfl⟩
  go_wp2
  go_ret
  rw [hs.out]
  exact ⟨rfl, HQ.out _⟩
 by_cases r3 : 0 ≤ a2 ∧ a2 ≤ tokens
 case neg =>
  have hs : Hid (checkL a0 a1 a2 a3 tokens T l5 = 220) := by show _ = _; unfold checkL; rw [if_pos (Or.inl (fun h => r3 (by unfold rangeOk at h; exact h.2.2.2.1)))]
  have hb : (decide (0 ≤ a2) && decide (a2 ≤ tokens)) = false := by rw [← Bool.decide_and]; exact decide_eq_false r3
  clear HT HP r3
  go_enter Try.func14, Try.ntmps14
  go_wp2_with fail
  ((with_reducible refine (between_calls _ _ _ true ?_ _).mono ?_))
  ·rw [decide_eq_true r0.1, decide_eq_true r0.2]; rfl
  rintro e' w' ⟨rfl, q0, rfl⟩
  go_wp2_with fail
  ((with_reducible refine (between_calls _ _ _ true ?_ _).mono ?_))
  ·rw [decide_eq_true r1.1, decide_eq_true r1.2]; rfl
  rintro e' w' ⟨rfl, q1, rfl⟩
  go_wp2_with fail
  ((with_reducible refine (between_calls _ _ _ true ?_ _).mono ?_))
  ·rw [decide_eq_true r2.1, decide_eq_true r2.2]; rfl
  rintro e' w' ⟨rfl, q2, rfl⟩
  go_wp2_with fail
  ((with_reducible refine (between_calls _ _ _ false ?_ _).mono ?_))
  ·exact hb.symm
  rintro e' w' ⟨rfl, q3, rfl⟩
  go_wp2
  go_ret
  rw [hs.out]
  exact ⟨rfl, HQ.out _⟩
 by_cases r4 : 1 ≤ a3 ∧ a3 ≤ 65536
 case neg =>
  have hs : Hid (checkL a0 a1 a2 a3 tokens T l5 = 220) := by show _ = _; unfold checkL; rw [if_pos (Or.inl (fun h => r4 (by unfold rangeOk at h; exact h.2.2.2.2)))]
  have hb : (decide (1 ≤ a3) && decide (a3 ≤ 65536)) = false := by rw [← Bool.decide_and]; exact decide_eq_false r4
  clear HT HP r4
  go_enter Try.func14, Try.ntmps14
  go_wp2_with fail
  ((with_reducible refine (between_calls _ _ _ true ?_ _).mono ?_))
  ·rw [decide_eq_true r0.1, decide_eq_true r0.2]; rfl
  rintro e' w' ⟨rfl, q0, rfl⟩
  go_wp2_with fail
  ((with_reducible refine (between_calls _ _ _ true ?_ _).mono ?_))
  ·rw [decide_eq_true r1.1, decide_eq_true r1.2]; rfl
  rintro e' w' ⟨rfl, q1, rfl⟩
  go_wp2_with fail
  ((with_reducible refine (between_calls _ _ _ true ?_ _).mono ?_))
  ·rw [decide_eq_true r2.1, decide_eq_true r2.2]; rfl
  rintro e' w' ⟨rfl, q2, rfl⟩
  go_wp2_with fail
  ((with_reducible refine (between_calls _ _ _ true ?_ _).mono ?_))
  ·rw [decide_eq_true r3.1, decide_eq_true r3.2]; rfl
  rintro e' w' ⟨rfl, q3, rfl⟩
  go_wp2_with fail
  ((with_reducible refine (between_calls _ _ _ false ?_ _).mono ?_))
  ·exact hb.symm
  rintro e' w' ⟨rfl, q4, rfl⟩
  go_wp2
  go_ret
  rw [hs.out]
  exact ⟨rfl, HQ.out _⟩
 have hR : rangeOk a0 a1 a2 a3 tokens := ⟨r0, r1, r2, r3, r4⟩
 go_enter Try.func14, Try.ntmps14
 go_wp2_with fail
 ((with_reducible refine (between_calls _ _ _ true ?_ _).mono ?_))
 ·rw [decide_eq_true r0.1, decide_eq_true r0.2]; rfl
 rintro e' w' ⟨rfl, q0, rfl⟩
 go_wp2_with fail
 ((with_reducible refine (between_calls _ _ _ true ?_ _).mono ?_))
 ·rw [decide_eq_true r1.1, decide_eq_true r1.2]; rfl
 rintro e' w' ⟨rfl, q1, rfl⟩
 go_wp2_with fail
 ((with_reducible refine (between_calls _ _ _ true ?_ _).mono ?_))
 ·rw [decide_eq_true r2.1, decide_eq_true r2.2]; rfl
 rintro e' w' ⟨rfl, q2, rfl⟩
 go_wp2_with fail
 ((with_reducible refine (between_calls _ _ _ true ?_ _).mono ?_))
 ·rw [decide_eq_true r3.1, decide_eq_true r3.2]; rfl
 rintro e' w' ⟨rfl, q3, rfl⟩
 go_wp2_with fail
 ((with_reducible refine (between_calls _ _ _ true ?_ _).mono ?_))
 ·rw [decide_eq_true r4.1, decide_eq_true r4.2]; rfl
 rintro e' w' ⟨rfl, q4, rfl⟩
 go_wp2_with fail
 ((with_reducible refine (HT.out _ (HQ.out _)).mono ?_))
 rintro e' w2 ⟨rfl, hB2⟩
 have B2 : Aside (Below w.heap.size w w2) := (HQ.out _).trans (hB2.mono (HQ.out _).size)
 have hrow : w2.heap[w.heap.size]? = some (.cells #[.int .i64 a0, .int .i64 a1, .int .i64 a2, .int .i64 a3, .int .i64 a4, .slice A5 l5.length c5] 24 (0, 0)) := by
  rw [hB2.block w.heap.size (by show _ < (w.heap.push _).size; simp)]
  show (w.heap.push _)[w.heap.size]? = _
  simp
 have HR : Aside (w2.heap[w.heap.size]? = some (.cells #[.int .i64 a0, .int .i64 a1, .int .i64 a2, .int .i64 a3, .int .i64 a4, .slice A5 l5.length c5] 24 (0, 0))) := hrow
 have hc5 : w2.cell? ⟨w.heap.size, 5, none⟩ = some (.slice A5 l5.length c5) := by unfold World.cell?; rw [hrow]; rfl
 clear hB2 HT hrow
 by_cases r5 : T = 0
 ·have hs : Hid (checkL a0 a1 a2 a3 tokens T l5 = 220) := by show _ = _; unfold checkL; rw [if_pos (Or.inr (Or.inl r5))]
  subst r5
  go_wp2
  go_ret
  rw [hs.out]
  exact ⟨rfl, B2.out⟩
 ·have r5b : (T == 0) = false := by rw [beq_eq_false_iff_ne]; exact r5
  by_cases r6 : 64 < l5.length
  ·have hs : Hid (checkL a0 a1 a2 a3 tokens T l5 = 220) := by show _ = _; unfold checkL; rw [if_pos (Or.inr (Or.inr r6))]
   have z : (l5.length : Int) > 64 := by omega
   go_wp2
   go_ret
   rw [hs.out]
   exact ⟨rfl, B2.out⟩
  ·have hs : Hid (checkL a0 a1 a2 a3 tokens T l5 = if goodBias tokens l5 l5.length 0 = true then 0 else 220) := by
    show _ = _
    unfold checkL
    rw [if_neg (by rintro (h | h | h); exact h hR; exact r5 h; exact r6 h)]
   have z : ¬ (l5.length : Int) > 64 := by omega
   go_wp2
   have HB0 : Aside (Below w.heap.size w w2) := B2.out
   clear hc5 HQ
   go_loopg [50] l5.length (fun kx s50 wr => ∃ i : Nat, s50 = .int .i64 i ∧ i ≤ l5.length ∧ l5.length - i ≤ kx ∧ Aside (Below w.heap.size w wr) ∧ Aside (wr.heap[w.heap.size]? = some (.cells #[.int .i64 a0, .int .i64 a1, .int .i64 a2, .int .i64 a3, .int .i64 a4, .slice A5 l5.length c5] 24 (0, 0))) ∧ Hid (goodBias tokens l5 (l5.length - i) i = goodBias tokens l5 l5.length 0))
   case atStart => exact ⟨0, rfl, by omega, by omega, HB0, HR, rfl⟩
   case round =>
    clear HB0 HR B2
    obtain ⟨i, rfl, hi, hkx, HB, HR, HE⟩ := hrel
    have hc5 : wr.cell? ⟨w.heap.size, 5, none⟩ = some (.slice A5 l5.length c5) := by unfold World.cell?; rw [HR.out]; rfl
    by_cases hlt : i < l5.length
    ·have hltz : (i : Int) < (l5.length : Int) := by omega
     obtain ⟨ad, rfl, hx1, hx2⟩ := HP.out i hlt
     have hlt1 : (ad.add (i * 2)).block < w.heap.size := by
      unfold World.cell? at hx1
      rcases Nat.lt_or_ge (ad.add (i * 2)).block w.heap.size with h2 | h2
      ·exact h2
      ·rw [Array.getElem?_eq_none h2] at hx1; cases hx1
     have hx1' : wr.cell? (ad.add (i * 2)) = some (.int .i64 (l5.getD i (0, 0)).1) := by rw [← hx1]; unfold World.cell?; rw [HB.out.block _ hlt1]
     have hx2' : wr.cell? ⟨(ad.add (i * 2)).block, (ad.add (i * 2)).off + 1, none⟩ = some (.int .i64 (l5.getD i (0, 0)).2) := by rw [← hx2]; unfold World.cell?; rw [HB.out.block _ hlt1]
     clear hx1 hx2
     obtain ⟨d, hd⟩ : ∃ d, l5.length - i = d + 1 := ⟨l5.length - i - 1, by omega⟩
     have HE0 := HE.out
     rw [hd, goodBias] at HE0
     clear HE
     obtain ⟨x, hx⟩ : ∃ x, x = l5.getD i (0, 0) := ⟨_, rfl⟩
     rw [← hx] at HE0 hx1' hx2'
     have HXE : Hid (x = l5.getD i (0, 0)) := hx
     clear hx
     have hi2 : (Try.prog.info? 46).map (fun i => (i.zero, i.size)) = some (some (.agg #[.int .i64 0, .int .i64 0]), 2) := by kernel_rfl
     obtain ⟨_, hs4⟩ := zero_of_info hi2
     have hg : (wr.alloc (.cells #[.int .i64 0, .int .i64 0] 46)).heap[wr.heap.size]? = some (.cells #[.int .i64 0, .int .i64 0] 46 (0, 0)) := heap_alloc_last wr _
     have hset : (wr.alloc (.cells #[.int .i64 0, .int .i64 0] 46)).setRow wr.heap.size #[.int .i64 x.1, .int .i64 x.2] = wr.alloc (.cells #[.int .i64 x.1, .int .i64 x.2] 46) := World.setRow_alloc_new wr _ _ _
     have hrow : (wr.alloc (.cells #[.int .i64 x.1, .int .i64 x.2] 46)).heap[wr.heap.size]? = some (.cells #[.int .i64 x.1, .int .i64 x.2] 46 (0, 0)) := heap_alloc_last wr _
     have HB3 : Aside (Below w.heap.size w (wr.alloc (.cells #[.int .i64 x.1, .int .i64 x.2] 46))) := HB.out.alloc HB.out.size _
     have hsz : w.heap.size < wr.heap.size := by
      rcases Nat.lt_or_ge w.heap.size wr.heap.size with h | h
      ·exact h
      ·have := HR.out
       rw [Array.getElem?_eq_none h] at this; cases this
     clear hc5
     have HR3 : Aside ((wr.alloc (.cells #[.int .i64 x.1, .int .i64 x.2] 46)).heap[w.heap.size]? = some (.cells #[.int .i64 a0, .int .i64 a1, .int .i64 a2, .int .i64 a3, .int .i64 a4, .slice (some ad) l5.length c5] 24 (0, 0))) := by
      show _ = _
      rw [← HR.out]
      show (wr.heap.push _)[w.heap.size]? = _
      rw [Array.getElem?_push, if_neg (by omega)]
     have hcz : (i : Int) ≤ (c5 : Int) := by omega
     have hall : (#[.int .i64 x.1, .int .i64 x.2] : Array Value).all (·.oneCell') = true := by simp [Value.oneCell']
     have hc5 : (wr.alloc (.cells #[.int .i64 x.1, .int .i64 x.2] 46)).cell? ⟨w.heap.size, 5, none⟩ = some (.slice (some ad) l5.length c5) := by unfold World.cell?; rw [HR3.out]; rfl
     have hb0 : (wr.alloc (.cells #[.int .i64 x.1, .int .i64 x.2] 46)).cell? ⟨wr.heap.size, 0, none⟩ = some (.int .i64 x.1) := by unfold World.cell?; rw [hrow]; rfl
     have hb1 : (wr.alloc (.cells #[.int .i64 x.1, .int .i64 x.2] 46)).cell? ⟨wr.heap.size, 1, none⟩ = some (.int .i64 x.2) := by unfold World.cell?; rw [hrow]; rfl
     clear hi2 HB HR
     have eg : ∀ args w, (callFunc 35 args).run Try.prog w = .ok (.enter 35 args) w := enters_of Try.func35 (by kernel_rfl) rfl
     have htl : (l5.take i).length = i := by rw [List.length_take]; omega
     have hPt : Pairs (wr.alloc (.cells #[.int .i64 x.1, .int .i64 x.2] 46)) (some ad) (l5.take i) := by
      intro j hj
      rw [htl] at hj
      obtain ⟨ad2, e2, y1, y2⟩ := HP.out j (by omega)
      have hlt2 : (ad2.add (j * 2)).block < w.heap.size := by
       unfold World.cell? at y1
       rcases Nat.lt_or_ge (ad2.add (j * 2)).block w.heap.size with h2 | h2
       ·exact h2
       ·rw [Array.getElem?_eq_none h2] at y1; cases y1
      have eg1 : (l5.take i).getD j (0, 0) = l5.getD j (0, 0) := by rw [List.getD_eq_getElem?_getD, List.getElem?_take, if_pos hj, List.getD_eq_getElem?_getD]
      refine ⟨ad2, e2, ?_, ?_⟩
      ·rw [eg1, ← y1]; unfold World.cell?; rw [HB3.out.block _ hlt2]
      ·rw [eg1, ← y2]; unfold World.cell?; rw [HB3.out.block _ hlt2]
     have hcall := contains_bias (some ad) c5 (l5.take i) (wr.alloc (.cells #[.int .i64 x.1, .int .i64 x.2] 46)) hPt (by rw [htl]; omega) 35 #[.pointer (some ⟨wr.heap.size, 0, none⟩)] (fun a => a.1 == x.1) eg (by
      intro q os a _
      exact check1_calls wr.heap.size a x.1 _ (cell_grown hb0 q os))
     rw [htl] at hcall
     have HCL : Aside (Calls Try.prog 34 #[.slice (some ad) i c5, .func (.func 35) #[] #[.pointer (some ⟨wr.heap.size, 0, none⟩)]] (wr.alloc (.cells #[.int .i64 x.1, .int .i64 x.2] 46)) fun e w' => e = .returned (.bool ((l5.take i).any fun a => a.1 == x.1)) ∧ ∃ q os, w' = grow ((wr.alloc (.cells #[.int .i64 x.1, .int .i64 x.2] 46)).drewN q) os) := hcall
     clear hcall hPt htl eg
     go_wp2_with (first | (refine wpList_store_row rfl 46 _ _ rfl wr.heap.size #[.int .i64 x.1, .int .i64 x.2] rfl rfl 46 #[.int .i64 0, .int .i64 0] hg hs4 rfl hall ?_; rw [hset]) | fail)
     ((with_reducible refine HCL.out.mono ?_))
     rintro e' w4 ⟨rfl, q5, os5, rfl⟩
     have hb04 := cell_grown hb0 q5 os5
     have hb14 := cell_grown hb1 q5 os5
     have HB4 : Aside (∀ k, Below w.heap.size w ((grow ((wr.alloc (.cells #[.int .i64 x.1, .int .i64 x.2] 46)).drewN q5) os5).drewN k)) := by
      intro k
      refine ⟨HB3.out.os, HB3.out.tape, HB3.out.output, ?_, fun j hj => ?_⟩
      ·show _ ≤ ((wr.alloc (.cells #[.int .i64 x.1, .int .i64 x.2] 46)).heap ++ os5).size
       rw [Array.size_append]
       have := HB3.out.size
       omega
      ·show ((wr.alloc (.cells #[.int .i64 x.1, .int .i64 x.2] 46)).heap ++ os5)[j]? = _
       rw [Array.getElem?_append_left (Nat.lt_of_lt_of_le hj HB3.out.size)]
       exact HB3.out.block j hj
     have HR4 : Aside (∀ k, ((grow ((wr.alloc (.cells #[.int .i64 x.1, .int .i64 x.2] 46)).drewN q5) os5).drewN k).heap[w.heap.size]? = some (.cells #[.int .i64 a0, .int .i64 a1, .int .i64 a2, .int .i64 a3, .int .i64 a4, .slice (some ad) l5.length c5] 24 (0, 0))) := by
      intro k
      show ((wr.alloc (.cells #[.int .i64 x.1, .int .i64 x.2] 46)).heap ++ os5)[w.heap.size]? = _
      rw [Array.getElem?_append_left (by show _ < (wr.heap.push _).size; rw [Array.size_push]; omega)]
      exact HR3.out
     clear hb0 hb1 hc5 hx1' hx2' HCL hset hrow hg HB3 HR3 hsz
     generalize grow ((wr.alloc (.cells #[.int .i64 x.1, .int .i64 x.2] 46)).drewN q5) os5 = w4 at hb04 hb14 HB4 HR4 ⊢
     obtain ⟨tw, htw⟩ : ∃ tw, tw = (l5.take i).any fun a => a.1 == x.1 := ⟨_, rfl⟩
     have HBAD : Hid (badB tokens (l5.take i) x = (!(decide (0 ≤ x.1) && decide (x.1 ≤ tokens - 1)) || decide (x.2 < -1048576) || decide (x.2 > 1048576) || tw)) := by show _ = _; rw [htw]; rfl
     rw [← htw]
     have HE1 : Hid ((if badB tokens (l5.take i) x = true then false else goodBias tokens l5 d (i + 1)) = goodBias tokens l5 l5.length 0) := HE0
     clear htw HE0 HXE
     obtain ⟨xt, xa⟩ := x
     have HBAD2 : Hid (badB tokens (l5.take i) (xt, xa) = (!(decide (0 ≤ xt) && decide (xt ≤ tokens - 1)) || decide (xa < -1048576) || decide (xa > 1048576) || tw)) := HBAD.out
     have hb05 : w4.cell? ⟨wr.heap.size, 0, none⟩ = some (.int .i64 xt) := hb04
     have hb15 : w4.cell? ⟨wr.heap.size, 1, none⟩ = some (.int .i64 xa) := hb14
     clear HBAD hb04 hb14
     have htk : tokens ≤ 512 := r0.2
     have htk1 : 1 ≤ tokens := r0.1
     have fin : badB tokens (l5.take i) (xt, xa) = true → Hid (checkL a0 a1 a2 a3 tokens T l5 = 220) := by
      intro h
      show _ = _
      have h2 := HE1.out
      rw [if_pos h] at h2
      rw [hs.out, ← h2, if_neg (by decide)]
     go_wp2_with fail
     by_cases g0 : 0 ≤ xt ∧ xt ≤ tokens - 1
     case neg =>
      have hbt : (decide (0 ≤ xt) && decide (xt ≤ tokens - 1)) = false := by rw [← Bool.decide_and]; exact decide_eq_false g0
      have hbad := fin (by rw [HBAD2.out, hbt]; rfl)
      clear fin HBAD2 HE1 hs HP
      ((with_reducible refine (between_calls _ _ _ false ?_ _).mono ?_))
      ·exact hbt.symm
      rintro e' w' ⟨rfl, q6, rfl⟩
      go_wp2
      go_ret
      rw [hbad.out]
      exact ⟨rfl, HB4.out _⟩
     have hbt : (decide (0 ≤ xt) && decide (xt ≤ tokens - 1)) = true := by rw [← Bool.decide_and]; exact decide_eq_true g0
     have HBAD3 : Hid (badB tokens (l5.take i) (xt, xa) = (!true || decide (xa < -1048576) || decide (xa > 1048576) || tw)) := by show _ = _; rw [← hbt]; exact HBAD2.out
     clear HBAD2
     have HBAD2 := HBAD3
     clear HBAD3
     ((with_reducible refine (between_calls _ _ _ true ?_ _).mono ?_))
     ·exact hbt.symm
     rintro e' w' ⟨rfl, q6, rfl⟩
     by_cases g1 : xa < -1048576
     ·have h1 : decide (xa < -1048576) = true := decide_eq_true g1
      have hbad := fin (by rw [HBAD2.out, h1]; rfl)
      clear fin HBAD2 HE1 hs HP hbt
      go_wp2
      go_ret
      rw [hbad.out]
      exact ⟨rfl, HB4.out _⟩
     have h1 : decide (xa < -1048576) = false := decide_eq_false g1
     by_cases g2 : xa > 1048576
     ·have h2 : decide (xa > 1048576) = true := decide_eq_true g2
      have hbad := fin (by rw [HBAD2.out, h1, h2]; rfl)
      clear fin HBAD2 HE1 hs HP hbt
      go_wp2
      go_ret
      rw [hbad.out]
      exact ⟨rfl, HB4.out _⟩
     have h2 : decide (xa > 1048576) = false := decide_eq_false g2
     cases tw with
     | true =>
      have hbad := fin (by rw [HBAD2.out, h1, h2]; rfl)
      clear fin HBAD2 HE1 hs HP hbt
      go_wp2
      go_ret
      rw [hbad.out]
      exact ⟨rfl, HB4.out _⟩
     | false =>
      have hgood : badB tokens (l5.take i) (xt, xa) = false := by rw [HBAD2.out, h1, h2]; rfl
      have HE2 : Hid (goodBias tokens l5 (l5.length - (i + 1)) (i + 1) = goodBias tokens l5 l5.length 0) := by
       show _ = _
       have h3 := HE1.out
       rw [if_neg (by rw [hgood]; decide)] at h3
       rw [show l5.length - (i + 1) = d by omega]
       exact h3
      clear fin HBAD2 HE1 hgood hbt
      go_wp2
      go_roundg (l5.length - (i + 1))
      case measure => omega
      case rel => exact ⟨i + 1, by go_num, by omega, Nat.le_refl _, HB4.out _, HR4.out _, HE2⟩
    ·have hltz : ¬ (i : Int) < (l5.length : Int) := by omega
     have HE0 := HE.out
     rw [show l5.length - i = 0 by omega, goodBias] at HE0
     have hs2 : Hid (checkL a0 a1 a2 a3 tokens T l5 = 0) := by show _ = _; rw [hs.out, ← HE0, if_pos rfl]
     clear HE0 HE hs
     go_wp2
     go_ret
     rw [hs2.out]
     exact ⟨rfl, HB.out⟩
end Go.Proofs.Ythmckhfjaleomaa.St
/- A row of whole numbers that the call itself has made: read, written, kept. -/
namespace Go.Proofs.Ythmckhfjaleomaa.St
open Go.Proofs Go.Shelf Go.RowKit Go.Lib Go.Sort Go.Proofs.YthmckhfjaleomaaW.PrintWords
/-- at block b of w lies l, made since base. -/
def RowI (k : IntKind) (t : TypeId) (base : Nat) (b cap : Nat) (l : List Int) (w : World) : Prop := Kd.R (Kd.int k) t w base (fun _ => True) (.slice (some ⟨b, 0, none⟩) l.length cap) l
theorem RowI.cell {k : IntKind} {t : TypeId} {base b cap : Nat} {l : List Int} {w : World} (h : RowI k t base b cap l w) (i : Nat) (hi : i < l.length) : w.cell? ⟨b, i, none⟩ = some (.int k (l.getD i 0)) := by
 have := (Kd.R_celln (d := (0 : Int)) (h1 := fun _ => rfl) (enc := Value.int k) h (i : Int) (by omega) (by omega)).1
 rw [Int.toNat_natCast] at this
 rw [this]
 unfold rdOf
 rw [Int.toNat_natCast]
theorem RowI.frozen {k : IntKind} {t : TypeId} {base b cap : Nat} {l : List Int} {w : World} (h : RowI k t base b cap l w) (i : Nat) (hi : i < l.length) : w.frozen? ⟨b, i, none⟩ = false := by
 have := (Kd.R_celln (d := (0 : Int)) (h1 := fun _ => rfl) (enc := Value.int k) h (i : Int) (by omega) (by omega)).2
 rw [Int.toNat_natCast] at this
 exact this
theorem RowI.set {k : IntKind} {t : TypeId} {base b cap : Nat} {l : List Int} {w : World} (h : RowI k t base b cap l w) (i : Nat) (x : Int) : RowI k t base b cap (l.set i x) (w.setCell ⟨b, i, none⟩ (.int k x)) := by
 have := Kd.R_putn (h1 := fun _ => rfl) (enc := Value.int k) h (i : Int) x
 rw [Int.toNat_natCast] at this
 unfold RowI
 rw [List.length_set]
 exact this
theorem RowI.drewN {k : IntKind} {t : TypeId} {base b cap : Nat} {l : List Int} {w : World} (h : RowI k t base b cap l w) (q : Nat) : RowI k t base b cap l (w.drewN q) := Kd.R_drewN h q
theorem RowI.below {k : IntKind} {t : TypeId} {base b cap : Nat} {l : List Int} {w w1 : World} (h : RowI k t base b cap l w) (hb : Below w.heap.size w w1) : RowI k t base b cap l w1 := Kd.R_below h hb
theorem RowI.form {k : IntKind} {t : TypeId} {base b cap : Nat} {l : List Int} {w : World} (h : RowI k t base b cap l w) (hp : 0 < l.length) : base ≤ b ∧ b < w.heap.size := by
 obtain ⟨g, c, e, h1, h2, _⟩ := Kd.R_form h hp
 injection e with e _ _
 injection e with e
 injection e with e _ _
 subst e
 exact ⟨h1, h2⟩
theorem RowI.made (k : IntKind) (t : TypeId) (w : World) (n : Nat) (hn : n ≤ 17592186044416) : RowI k t w.heap.size w.heap.size n (List.replicate n 0) (w.alloc (.cells (madeCells #[.int k 0] n) t)) := by
 unfold RowI
 refine Kd.R_of_own (enc := Value.int k) (h1 := fun _ => rfl) ⟨by simp [encs], .inr ⟨w.heap.size, n, madeCells #[.int k 0] n, by rw [List.length_replicate], Nat.le_refl _, ?_, by rw [List.length_replicate]; exact Nat.le_refl _, by simp only [maxLen]; omega, by rw [size_madeCells]; simp, ?_⟩⟩ (fun _ _ => trivial)
 ·show (w.heap.push _)[w.heap.size]? = _
  simp
 ·rw [List.length_replicate, Nat.mul_one, List.take_of_length_le (by rw [Array.length_toList, size_madeCells]; simp)]
  apply List.ext_getElem?
  intro j
  unfold madeCells encs
  simp only [Array.getElem?_toList, List.map_replicate]
  rcases Nat.lt_or_ge j n with h | h
  ·simp [h, Nat.mod_one]
  ·simp [Nat.not_lt.2 h]
theorem row_of_R {k : IntKind} {t : TypeId} {base : Nat} {v : Value} {l : List Int} {w : World} (h : Kd.R (Kd.int k) t w base (fun _ => True) v l) (hp : 0 < l.length) : ∃ b cap, v = .slice (some ⟨b, 0, none⟩) l.length cap ∧ l.length ≤ cap ∧ base ≤ b ∧ b < w.heap.size ∧ RowI k t base b cap l w := by
 obtain ⟨g, c, e, h1, h2, _⟩ := Kd.R_form h hp
 subst e
 obtain ⟨_, hc, _⟩ := Kd.R_reads' h
 exact ⟨g, c, rfl, hc, h1, h2, h⟩
theorem cell_at_below {w w' : World} {B : Nat} (h : Below B w w') {a : Addr} {v : Value} (hB : a.block < B) (hc : w.cell? a = some v) : w'.cell? a = some v := by
 rw [← hc]
 unfold World.cell?
 rw [h.block a.block hB]
theorem lt_of_cell {w : World} {a : Addr} {v : Value} (h : w.cell? a = some v) : a.block < w.heap.size := by
 unfold World.cell? at h
 rcases Nat.lt_or_ge a.block w.heap.size with h2 | h2
 ·exact h2
 ·rw [Array.getElem?_eq_none h2] at h; cases h
theorem below_of_grow {w W : World} (h : Below w.heap.size w W) (q : Nat) (os : Array Obj) : Below w.heap.size w (grow (W.drewN q) os) := by
 refine ⟨h.os, h.tape, h.output, ?_, fun j hj => ?_⟩
 ·show _ ≤ (W.heap ++ os).size
  rw [Array.size_append]
  have := h.size
  omega
 ·show (W.heap ++ os)[j]? = _
  rw [Array.getElem?_append_left (Nat.lt_of_lt_of_le hj h.size)]
  exact h.block j hj
theorem below_self_grow (W : World) (q : Nat) (os : Array Obj) : Below W.heap.size W (grow (W.drewN q) os) := below_of_grow (Below.refl _ W) q os
end Go.Proofs.Ythmckhfjaleomaa.St
/- The closures of dist.Weights, dist.Least, dist.Penalise. -/
namespace Go.Proofs.Ythmckhfjaleomaa.St
open Go.Proofs Go.Shelf Go.RowKit Go.Lib Go.Sort Go.Proofs.YthmckhfjaleomaaW.PrintWords
/-- may a token come? -/
def mayL (l : List Bool) (i : Nat) : Bool := decide (l.length = 0) || l.getD i false
theorem reads_bool {w : World} {A0 : Option Addr} {l0 : List Bool} (hr0 : Kd.C Kd.bool w A0 l0.length l0) : ∀ i : Nat, i < l0.length → ∃ ad, A0 = some ad ∧ w.cell? (ad.add i) = some (.bool (l0.getD i false)) := by
 intro i hi
 obtain ⟨ad, c, e, _, hK, hc0⟩ := Kd.C_get hr0 false (i : Int) (by omega) (by omega)
 have hK' : c = [.bool (l0.getD i false)] := by rw [Int.toNat_natCast] at hK; exact hK
 subst hK'
 have h := hc0 0 _ rfl
 rw [Int.toNat_natCast] at h
 exact ⟨ad, e, by rw [show i * Kd.bool.sz + 0 = i by show i * 1 + 0 = i; omega] at h; exact h⟩
theorem cell_of_blk {W : World} {gb : Nat} {v : Value} {t : TypeId} (hb : W.heap[gb]? = some (.cells #[v] t (0, 0))) : W.cell? ⟨gb, 0, none⟩ = some v := by
 unfold World.cell?; rw [hb]; rfl

set_option maxRecDepth 1000000 in
theorem mask1_calls (gb : Nat) (A1 : Option Addr) (c1 : Nat) (l1 : List Bool) (W : World) (hb : W.heap[gb]? = some (.cells #[.slice A1 l1.length c1] 37 (0, 0))) (hC : Kd.C Kd.bool W A1 l1.length l1) (i : Nat) (hi : l1.length = 0 ∨ i < l1.length) :
  Calls Try.prog 41 (#[.int .i64 (i : Int)] ++ #[.pointer (some ⟨gb, 0, none⟩)]) W fun e w' => e = .returned (.bool (mayL l1 i)) ∧ ∃ q os, w' = grow (W.drewN q) os := by
 show Calls Try.prog 41 #[.int .i64 (i : Int), .pointer (some ⟨gb, 0, none⟩)] W _
 have mixed : Try.prog.follows .mixedOrders = true := by kernel_rfl
 have h0 := cell_of_blk hb
 have R : Aside (∀ i : Nat, i < l1.length → ∃ ad, A1 = some ad ∧ W.cell? (ad.add i) = some (.bool (l1.getD i false))) := reads_bool hC
 clear hC hb
 by_cases hz : l1.length = 0
 ·have HM : Hid (mayL l1 i = true) := by show _ = _; unfold mayL; rw [decide_eq_true hz]; rfl
  rw [hz] at h0
  clear hz hi
  go_enter Try.func41, Try.ntmps41
  go_wp2
  go_ret
  rw [HM.out]
  exact ⟨rfl, 0, #[], by rw [grow_empty]; rfl⟩
 ·have hlt : i < l1.length := by omega
  have HM : Hid (mayL l1 i = l1.getD i false) := by show _ = _; unfold mayL; rw [decide_eq_false hz]; rfl
  obtain ⟨ad, rfl, hc⟩ := R.out i hlt
  have hltz : (i : Int) < (l1.length : Int) := by omega
  have hz1 : ((l1.length : Int) == 0) = false := by rw [beq_eq_false_iff_ne]; omega
  have hz2 : ¬ (l1.length : Int) = 0 := by omega
  obtain ⟨n, hnn⟩ : ∃ n, n = l1.length := ⟨_, rfl⟩
  rw [← hnn] at h0 hltz hz1 hz2 hlt
  clear R hi hz hnn
  go_enter Try.func41, Try.ntmps41
  go_wp2
  go_ret
  rw [HM.out]
  exact ⟨rfl, 0, #[], by rw [grow_empty]; rfl⟩
set_option maxRecDepth 1000000 in
theorem mask2_calls (gb : Nat) (A1 : Option Addr) (c1 : Nat) (l1 : List Bool) (W : World) (hb : W.heap[gb]? = some (.cells #[.slice A1 l1.length c1] 37 (0, 0))) (hC : Kd.C Kd.bool W A1 l1.length l1) (i : Nat) (hi : l1.length = 0 ∨ i < l1.length) :
  Calls Try.prog 62 (#[.int .i64 (i : Int)] ++ #[.pointer (some ⟨gb, 0, none⟩)]) W fun e w' => e = .returned (.bool (mayL l1 i)) ∧ ∃ q os, w' = grow (W.drewN q) os := by
 show Calls Try.prog 62 #[.int .i64 (i : Int), .pointer (some ⟨gb, 0, none⟩)] W _
 have mixed : Try.prog.follows .mixedOrders = true := by kernel_rfl
 have h0 := cell_of_blk hb
 have R : Aside (∀ i : Nat, i < l1.length → ∃ ad, A1 = some ad ∧ W.cell? (ad.add i) = some (.bool (l1.getD i false))) := reads_bool hC
 clear hC hb
 by_cases hz : l1.length = 0
 ·have HM : Hid (mayL l1 i = true) := by show _ = _; unfold mayL; rw [decide_eq_true hz]; rfl
  rw [hz] at h0
  clear hz hi
  go_enter Try.func62, Try.ntmps62
  go_wp2
  go_ret
  rw [HM.out]
  exact ⟨rfl, 0, #[], by rw [grow_empty]; rfl⟩
 ·have hlt : i < l1.length := by omega
  have HM : Hid (mayL l1 i = l1.getD i false) := by show _ = _; unfold mayL; rw [decide_eq_false hz]; rfl
  obtain ⟨ad, rfl, hc⟩ := R.out i hlt
  have hltz : (i : Int) < (l1.length : Int) := by omega
  have hz1 : ((l1.length : Int) == 0) = false := by rw [beq_eq_false_iff_ne]; omega
  have hz2 : ¬ (l1.length : Int) = 0 := by omega
  obtain ⟨n, hnn⟩ : ∃ n, n = l1.length := ⟨_, rfl⟩
  rw [← hnn] at h0 hltz hz1 hz2 hlt
  clear R hi hz hnn
  go_enter Try.func62, Try.ntmps62
  go_wp2
  go_ret
  rw [HM.out]
  exact ⟨rfl, 0, #[], by rw [grow_empty]; rfl⟩
end Go.Proofs.Ythmckhfjaleomaa.St
/- dist.heat in plain Lean. -/
namespace Go.Proofs.Ythmckhfjaleomaa.St
open Go Go.RowKit
def addB (l : List Int) : List (Int × Int) → Option (List Int)
 | [] => some l
 | b :: r => if 0 ≤ b.1 ∧ b.1 < (l.length : Int) then addB (l.set b.1.toNat (wrap64 (l.getD b.1.toNat 0 + b.2))) r else none
def maxM (may : Nat → Bool) : List Int → Nat → Bool → Int → Int
 | [], _, _, m => m
 | x :: r, i, f, m => if may i = true ∧ (f = true ∨ x > m) then maxM may r (i + 1) false x else maxM may r (i + 1) f m
def outV (num den m x : Int) : Int := expF (wrap64 (256 * (wrap64 (wrap64 (x - m) * num) / den)))
def outH (may : Nat → Bool) (num den m : Int) : List Int → Nat → List Int
 | [], _ => []
 | x :: r, i => (if may i = true then outV num den m x else 0) :: outH may num den m r (i + 1)
theorem outH_length (may : Nat → Bool) (num den m : Int) : ∀ (l : List Int) (i : Nat), (outH may num den m l i).length = l.length
 | [], _ => rfl
 | x :: r, i => by rw [outH, List.length_cons, List.length_cons, outH_length may num den m r (i + 1)]
theorem addB_length : ∀ (bs : List (Int × Int)) (l r : List Int), addB l bs = some r → r.length = l.length
 | [], l, r, h => by rw [addB] at h; injection h with h; rw [h]
 | b :: bs, l, r, h => by
  rw [addB] at h
  split at h
  ·rw [addB_length bs _ r h, List.length_set]
  ·cases h
/-- e of each score. -/
def heatL (may : Nat → Bool) (num den : Int) (bias : List (Int × Int)) (l : List Int) : Option (List Int) := (addB l bias).map fun s => outH may num den (maxM may s 0 true 0) s 0
end Go.Proofs.Ythmckhfjaleomaa.St
/- dist.heat. -/
namespace Go.Proofs.Ythmckhfjaleomaa.St
open Go.Proofs Go.Shelf Go.RowKit Go.Lib Go.Sort Go.Proofs.YthmckhfjaleomaaW.PrintWords

set_option maxHeartbeats 4000000 in
set_option maxRecDepth 1000000 in
theorem heat_calls (A0 : Option Addr) (c0 : Nat) (l0 : List Int) (g : Nat) (cb : Array Value) (may : Nat → Bool) (a0 a1 a2 a3 a4 : Int) (A5 : Option Addr) (c5 : Nat) (l5 : List (Int × Int)) (w : World)
  (hr0 : Kd.C (Kd.int .i64) w A0 l0.length l0) (hP : Pairs w A5 l5) (hn : l0.length ≤ 17592186044416) (hpos : 0 < l0.length) (hn5 : l5.length ≤ 17592186044416)
  (eg : ∀ args w, (callFunc g args).run Try.prog w = .ok (.enter g args) w)
  (hmay : ∀ W, Below w.heap.size w W → ∀ i : Nat, i < l0.length → Calls Try.prog g (#[.int .i64 i] ++ cb) W fun e w' => e = .returned (.bool (may i)) ∧ ∃ q os, w' = grow (W.drewN q) os)
  (hFl : ∀ x W, -9223372036854775808 ≤ x → x ≤ 9223372036854775807 → Calls Try.prog 72 #[.int .i64 x, .int .i64 a1] W fun e w' => e = .returned (.tuple #[.int .i64 (x / a1), .int .i64 (x % a1), .int .i64 0]) ∧ ∃ q, w' = W.drewN q)
  (r : List Int) (hH : heatL may a0 a1 l5 l0 = some r) :
  Calls Try.prog 40 #[.slice A0 l0.length c0, .func (.func g) #[] cb, .agg #[.int .i64 a0, .int .i64 a1, .int .i64 a2, .int .i64 a3, .int .i64 a4, .slice A5 l5.length c5]] w fun e w' => ∃ v, e = .returned v ∧ Kd.R (Kd.int .i64) 2 w' w.heap.size (fun _ => True) v r ∧ Below w.heap.size w w' := by
 have mixed : Try.prog.follows .mixedOrders = true := by kernel_rfl
 have hinfo : (Try.prog.info? 2).map (fun i => (i.zero, i.size, i.bytes)) = some (some (.int .i64 0), 1, 8) := by kernel_rfl
 have mk := print_make_int (P := Try.prog) 36 2 (.int .i64 0) 8 Try.underlying36 hinfo rfl (by omega) (l0.length : Int) (by omega) (by rw [Int.toNat_natCast]; omega)
 simp only [Int.toNat_natCast] at mk
 unfold heatL at hH
 obtain ⟨s, hs, hr⟩ := Option.map_eq_some_iff.1 hH
 have hsl := addB_length _ _ _ hs
 have HR : Hid (r = outH may a0 a1 (maxM may s 0 true 0) s 0) := hr.symm
 have HS : Hid (addB l0 l5 = some s) := hs
 have HL : Hid (s.length = l0.length) := hsl
 have HM : Aside (∀ W, Below w.heap.size w W → ∀ i : Nat, i < l0.length → Calls Try.prog g (#[.int .i64 i] ++ cb) W fun e w' => e = .returned (.bool (may i)) ∧ ∃ q os, w' = grow (W.drewN q) os) := hmay
 have HF : Aside (∀ x W, -9223372036854775808 ≤ x → x ≤ 9223372036854775807 → Calls Try.prog 72 #[.int .i64 x, .int .i64 a1] W fun e w' => e = .returned (.tuple #[.int .i64 (x / a1), .int .i64 (x % a1), .int .i64 0]) ∧ ∃ q, w' = W.drewN q) := hFl
 have HP : Aside (Pairs w A5 l5) := hP
 have MK : Aside _ := mk
 clear hmay hFl hP hs hr hsl hH mk hinfo
 have hba : Below w.heap.size w (w.alloc (.cells #[.int .i64 a0, .int .i64 a1, .int .i64 a2, .int .i64 a3, .int .i64 a4, .slice A5 l5.length c5] 24)) := (Below.refl _ w).alloc (Nat.le_refl _) _
 have HQ : Aside (Below w.heap.size w (w.alloc (.cells #[.int .i64 a0, .int .i64 a1, .int .i64 a2, .int .i64 a3, .int .i64 a4, .slice A5 l5.length c5] 24))) := hba
 have HC : Aside (∀ W, Below w.heap.size w W → Kd.C (Kd.int .i64) W A0 l0.length l0) := fun W hW => Kd.C_below hr0 hW
 have hbx : (w.alloc (.cells #[.int .i64 a0, .int .i64 a1, .int .i64 a2, .int .i64 a3, .int .i64 a4, .slice A5 l5.length c5] 24)).heap[w.heap.size]? = some (.cells #[.int .i64 a0, .int .i64 a1, .int .i64 a2, .int .i64 a3, .int .i64 a4, .slice A5 l5.length c5] 24 (0, 0)) := heap_alloc_last w _
 have HBX : Aside ((w.alloc (.cells #[.int .i64 a0, .int .i64 a1, .int .i64 a2, .int .i64 a3, .int .i64 a4, .slice A5 l5.length c5] 24)).heap[w.heap.size]? = some (.cells #[.int .i64 a0, .int .i64 a1, .int .i64 a2, .int .i64 a3, .int .i64 a4, .slice A5 l5.length c5] 24 (0, 0))) := hbx
 clear hba hbx hr0
 go_enter Try.func40, Try.ntmps40
 go_wp2_with fail
 ((with_reducible refine (clone_int64 A0 c0 l0 _ (HC.out _ HQ.out) hn).mono ?_))
 rintro e' w1 ⟨v, rfl, hR, hB⟩
 obtain ⟨b, cap, rfl, hcap, hb0, hb1, hRow⟩ := row_of_R hR hpos
 have R1 : Aside (RowI .i64 2 (w.heap.size + 1) b cap l0 w1) := by
  have h := hRow
  rw [show (w.alloc (.cells #[.int .i64 a0, .int .i64 a1, .int .i64 a2, .int .i64 a3, .int .i64 a4, .slice A5 l5.length c5] 24)).heap.size = w.heap.size + 1 from by show (w.heap.push _).size = _; simp] at h
  exact h
 have B1 : Aside (Below w.heap.size w w1) := HQ.out.trans (hB.mono HQ.out.size)
 have X1 : Aside (w1.heap[w.heap.size]? = some (.cells #[.int .i64 a0, .int .i64 a1, .int .i64 a2, .int .i64 a3, .int .i64 a4, .slice A5 l5.length c5] 24 (0, 0))) := blk_below HBX.out hB
 have HB0 : Hid (w.heap.size < b) := by
  have h := hb0
  rw [show (w.alloc (.cells #[.int .i64 a0, .int .i64 a1, .int .i64 a2, .int .i64 a3, .int .i64 a4, .slice A5 l5.length c5] 24)).heap.size = w.heap.size + 1 from by show (w.heap.push _).size = _; simp] at h
  exact h
 have hc5 : w1.cell? ⟨w.heap.size, 5, none⟩ = some (.slice A5 l5.length c5) := by unfold World.cell?; rw [X1.out]; rfl
 clear hR hRow hB hb0 hb1 HBX HC HQ
 go_wp2
 clear hc5
 go_loopg [25] l5.length (fun kx s25 wr => ∃ (i : Nat) (l : List Int), s25 = .int .i64 i ∧ i ≤ l5.length ∧ l5.length - i ≤ kx ∧ Hid (l.length = l0.length) ∧ Aside (Below w.heap.size w wr) ∧ Aside (wr.heap[w.heap.size]? = some (.cells #[.int .i64 a0, .int .i64 a1, .int .i64 a2, .int .i64 a3, .int .i64 a4, .slice A5 l5.length c5] 24 (0, 0))) ∧ Aside (RowI .i64 2 (w.heap.size + 1) b cap l wr) ∧ Hid (addB l (l5.drop i) = some s))
 case atStart => exact ⟨0, l0, rfl, by omega, by omega, rfl, B1, X1, R1, HS⟩
 case round =>
  clear B1 X1 R1 HS
  obtain ⟨i, l, rfl, hi, hkx, HLL, HB, HX, HRW, HE⟩ := hrel
  by_cases hlt : i < l5.length
  ·have hltz : (i : Int) < (l5.length : Int) := by omega
   obtain ⟨ad, rfl, hx1, hx2⟩ := HP.out i hlt
   have hlt1 : (ad.add (i * 2)).block < w.heap.size := lt_of_cell hx1
   have hx1' : wr.cell? (ad.add (i * 2)) = some (.int .i64 (l5.getD i (0, 0)).1) := cell_at_below HB.out hlt1 hx1
   have hx2' : wr.cell? ⟨(ad.add (i * 2)).block, (ad.add (i * 2)).off + 1, none⟩ = some (.int .i64 (l5.getD i (0, 0)).2) := cell_at_below HB.out hlt1 hx2
   have HE0 := HE.out
   have hd : l5.drop i = l5.getD i (0, 0) :: l5.drop (i + 1) := by
    rw [List.drop_eq_getElem_cons hlt, List.getD_eq_getElem?_getD, List.getElem?_eq_getElem hlt]; rfl
   rw [hd, addB] at HE0
   clear HE hd hx1 hx2 hlt1
   obtain ⟨x, hx⟩ : ∃ x, x = l5.getD i (0, 0) := ⟨_, rfl⟩
   rw [← hx] at HE0 hx1' hx2'
   clear hx
   obtain ⟨xt, xa⟩ := x
   split at HE0
   case isFalse => cases HE0
   case isTrue hin =>
   obtain ⟨hin0, hin1⟩ := hin
   have hin0' : 0 ≤ xt := hin0
   have hin1' : xt < (l.length : Int) := hin1
   clear hin0 hin1
   obtain ⟨tk, rfl⟩ : ∃ tk : Nat, xt = tk := ⟨xt.toNat, by omega⟩
   have htk : tk < l.length := by omega
   have HE1 : Hid (addB (l.set tk (wrap64 (l.getD tk 0 + xa))) (l5.drop (i + 1)) = some s) := HE0
   clear HE0
   have hx1c : wr.cell? (ad.add (i * 2)) = some (.int .i64 (tk : Int)) := hx1'
   have hx2c : wr.cell? ⟨(ad.add (i * 2)).block, (ad.add (i * 2)).off + 1, none⟩ = some (.int .i64 xa) := hx2'
   clear hx1' hx2'
   have hi2 : (Try.prog.info? 46).map (fun i => (i.zero, i.size)) = some (some (.agg #[.int .i64 0, .int .i64 0]), 2) := by kernel_rfl
   obtain ⟨_, hs4⟩ := zero_of_info hi2
   have hg : (wr.alloc (.cells #[.int .i64 0, .int .i64 0] 46)).heap[wr.heap.size]? = some (.cells #[.int .i64 0, .int .i64 0] 46 (0, 0)) := heap_alloc_last wr _
   have hset : (wr.alloc (.cells #[.int .i64 0, .int .i64 0] 46)).setRow wr.heap.size #[.int .i64 (tk : Int), .int .i64 xa] = wr.alloc (.cells #[.int .i64 (tk : Int), .int .i64 xa] 46) := World.setRow_alloc_new wr _ _ _
   have hrow : (wr.alloc (.cells #[.int .i64 (tk : Int), .int .i64 xa] 46)).heap[wr.heap.size]? = some (.cells #[.int .i64 (tk : Int), .int .i64 xa] 46 (0, 0)) := heap_alloc_last wr _
   have hal : Below wr.heap.size wr (wr.alloc (.cells #[.int .i64 (tk : Int), .int .i64 xa] 46)) := (Below.refl _ wr).alloc (Nat.le_refl _) _
   have HB3 : Aside (Below w.heap.size w (wr.alloc (.cells #[.int .i64 (tk : Int), .int .i64 xa] 46))) := HB.out.alloc HB.out.size _
   have HX3 : Aside ((wr.alloc (.cells #[.int .i64 (tk : Int), .int .i64 xa] 46)).heap[w.heap.size]? = some (.cells #[.int .i64 a0, .int .i64 a1, .int .i64 a2, .int .i64 a3, .int .i64 a4, .slice (some ad) l5.length c5] 24 (0, 0))) := blk_below HX.out hal
   have HR3 : Aside (RowI .i64 2 (w.heap.size + 1) b cap l (wr.alloc (.cells #[.int .i64 (tk : Int), .int .i64 xa] 46))) := HRW.out.below hal
   have hall : (#[.int .i64 (tk : Int), .int .i64 xa] : Array Value).all (·.oneCell') = true := by simp [Value.oneCell']
   have hb0 : (wr.alloc (.cells #[.int .i64 (tk : Int), .int .i64 xa] 46)).cell? ⟨wr.heap.size, 0, none⟩ = some (.int .i64 (tk : Int)) := by unfold World.cell?; rw [hrow]; rfl
   have hb1 : (wr.alloc (.cells #[.int .i64 (tk : Int), .int .i64 xa] 46)).cell? ⟨wr.heap.size, 1, none⟩ = some (.int .i64 xa) := by unfold World.cell?; rw [hrow]; rfl
   have hcl := HR3.out.cell tk htk
   have hfr := HR3.out.frozen tk htk
   have hRS := HR3.out.set tk (wrap64 (l.getD tk 0 + xa))
   have hBS : Below w.heap.size w ((wr.alloc (.cells #[.int .i64 (tk : Int), .int .i64 xa] 46)).setCell ⟨b, tk, none⟩ (.int .i64 (wrap64 (l.getD tk 0 + xa)))) := HB3.out.setCell (by have := HB0.out; show w.heap.size ≤ b; omega) _
   have hXS : ((wr.alloc (.cells #[.int .i64 (tk : Int), .int .i64 xa] 46)).setCell ⟨b, tk, none⟩ (.int .i64 (wrap64 (l.getD tk 0 + xa)))).heap[w.heap.size]? = some (.cells #[.int .i64 a0, .int .i64 a1, .int .i64 a2, .int .i64 a3, .int .i64 a4, .slice (some ad) l5.length c5] 24 (0, 0)) := blk_far HX3.out (by have := HB0.out; show w.heap.size ≠ b; omega) _
   clear hi2 HB HX HRW hrow hal HB3 HX3 HR3
   obtain ⟨y, hy⟩ : ∃ y, y = l.getD tk 0 := ⟨_, rfl⟩
   rw [← hy] at hcl hRS HE1 hBS hXS
   clear hy
   have hl1 : ((l.set tk (wrap64 (y + xa))).length : Nat) = l0.length := by rw [List.length_set]; exact HLL.out
   have hlen : l.length = l0.length := HLL.out
   have hinz : (tk : Int) < (l0.length : Int) := by omega
   have HR4 : Aside (RowI .i64 2 (w.heap.size + 1) b cap (l.set tk (wrap64 (y + xa))) ((wr.alloc (.cells #[.int .i64 (tk : Int), .int .i64 xa] 46)).setCell ⟨b, tk, none⟩ (.int .i64 (wrap64 (y + xa))))) := hRS
   have HB4 : Aside (Below w.heap.size w ((wr.alloc (.cells #[.int .i64 (tk : Int), .int .i64 xa] 46)).setCell ⟨b, tk, none⟩ (.int .i64 (wrap64 (y + xa))))) := hBS
   have HX4 : Aside (((wr.alloc (.cells #[.int .i64 (tk : Int), .int .i64 xa] 46)).setCell ⟨b, tk, none⟩ (.int .i64 (wrap64 (y + xa)))).heap[w.heap.size]? = some (.cells #[.int .i64 a0, .int .i64 a1, .int .i64 a2, .int .i64 a3, .int .i64 a4, .slice (some ad) l5.length c5] 24 (0, 0))) := hXS
   have HL1 : Hid ((l.set tk (wrap64 (y + xa))).length = l0.length) := hl1
   clear hRS hBS hXS hl1 hlen htk HLL hin1'
   go_wp2_with (first | (refine wpList_store_row rfl 46 _ _ rfl wr.heap.size #[.int .i64 (tk : Int), .int .i64 xa] rfl rfl 46 #[.int .i64 0, .int .i64 0] hg hs4 rfl hall ?_; rw [hset]) | fail)
   simp only [Act.put]
   go_big_region_o
   clear hx1c hx2c hs4 hg hset hall hb0 hb1 hcl hfr
   generalize (wr.alloc (.cells #[.int .i64 (tk : Int), .int .i64 xa] 46)).setCell ⟨b, tk, none⟩ (.int .i64 (wrap64 (y + xa))) = w2 at HR4 HB4 HX4 ⊢
   have HR5 : Aside (∀ q, RowI .i64 2 (w.heap.size + 1) b cap (l.set tk (wrap64 (y + xa))) (w2.drewN q)) := fun q => HR4.out.drewN q
   have HB5 : Aside (∀ q, Below w.heap.size w (w2.drewN q)) := fun q => ⟨HB4.out.os, HB4.out.tape, HB4.out.output, HB4.out.size, HB4.out.block⟩
   have HX5 : Aside (∀ q, (w2.drewN q).heap[w.heap.size]? = some (.cells #[.int .i64 a0, .int .i64 a1, .int .i64 a2, .int .i64 a3, .int .i64 a4, .slice (some ad) l5.length c5] 24 (0, 0))) := fun q => HX4.out
   go_wp2
   go_roundg (l5.length - (i + 1))
   case measure => omega
   case rel => exact ⟨i + 1, _, by go_num, by omega, Nat.le_refl _, HL1, HB5.out 1, HX5.out 1, HR5.out 1, HE1⟩
  ·have hltz : ¬ (i : Int) < (l5.length : Int) := by omega
   have hls : l = s := by
    have h := HE.out
    rw [List.drop_eq_nil_of_le (by omega), addB] at h
    injection h
   subst hls
   have hlen : l.length = l0.length := HLL.out
   have hfm := HRW.out.form (by omega)
   have SC : Aside (∀ j : Nat, j < l0.length → wr.cell? ⟨b, j, none⟩ = some (.int .i64 (l.getD j 0))) := fun j hj => HRW.out.cell j (by omega)
   have HBW : Hid (b < wr.heap.size) := hfm.2
   have HLN : Hid (l.length = l0.length) := hlen
   have HWW : Aside (Below w.heap.size w wr) := HB.out
   have HXW : Aside (wr.heap[w.heap.size]? = some (.cells #[.int .i64 a0, .int .i64 a1, .int .i64 a2, .int .i64 a3, .int .i64 a4, .slice A5 l5.length c5] 24 (0, 0))) := HX.out
   clear HE HLL HRW HB HX HP HL hlen hfm hkx
   go_wp2
   have H0 : Aside (Below wr.heap.size wr wr) := Below.refl _ _
   generalize hW1 : wr = W1 at *
   clear hW1
   go_loopg [10, 11, 41] l0.length (fun kx s10 s11 s41 wr => ∃ (i : Nat) (f : Bool) (m : Int), s10 = .bool f ∧ s11 = .int .i64 m ∧ s41 = .int .i64 i ∧ i ≤ l0.length ∧ l0.length - i ≤ kx ∧ Aside (Below W1.heap.size W1 wr) ∧ Hid (maxM may (l.drop i) i f m = maxM may l 0 true 0))
   case atStart => exact ⟨0, true, 0, rfl, rfl, rfl, by omega, by omega, H0, rfl⟩
   case round =>
    clear H0
    obtain ⟨i, f, m, rfl, rfl, rfl, hi, hkx, HB, HE⟩ := hrel
    by_cases hlt : i < l0.length
    ·have hltz : (i : Int) < (l0.length : Int) := by omega
     have hcx := cell_at_below HB.out HBW.out (SC.out i hlt)
     have HMI0 := HM.out wr (HWW.out.trans (HB.out.mono HWW.out.size)) i hlt
     obtain ⟨x, hx⟩ : ∃ x, x = l.getD i 0 := ⟨_, rfl⟩
     have HE0 := HE.out
     have hd : l.drop i = l.getD i 0 :: l.drop (i + 1) := by
      have hq : i < l.length := by have := HLN.out; omega
      rw [List.drop_eq_getElem_cons hq, List.getD_eq_getElem?_getD, List.getElem?_eq_getElem hq]; rfl
     rw [hd, maxM] at HE0
     rw [← hx] at HE0 hcx
     clear HE hd hx
     cases hmi : may i with
     | false =>
      rw [hmi] at HMI0
      have HMI : Aside (Calls Try.prog g (#[.int .i64 i] ++ cb) wr fun e w' => e = .returned (.bool false) ∧ ∃ q os, w' = grow (wr.drewN q) os) := HMI0
      have HE1 : Hid (maxM may (l.drop (i + 1)) (i + 1) f m = maxM may l 0 true 0) := by rw [if_neg (by rw [hmi]; simp)] at HE0; exact HE0
      clear HMI0 HE0 hmi
      go_wp2_with fail
      ((with_reducible refine HMI.out.mono ?_))
      rintro e' w3 ⟨rfl, q3, os3, rfl⟩
      have HB3 : Aside (∀ k, Below W1.heap.size W1 ((grow (wr.drewN q3) os3).drewN k)) := fun k => by
       have h := below_of_grow HB.out q3 os3
       exact ⟨h.os, h.tape, h.output, h.size, h.block⟩
      clear HB hcx
      generalize grow (wr.drewN q3) os3 = w3 at HB3 ⊢
      go_wp2
      go_roundg (l0.length - (i + 1))
      case measure => omega
      case rel => exact ⟨i + 1, f, m, rfl, rfl, by go_num, by omega, Nat.le_refl _, HB3.out 0, HE1⟩
     | true =>
      rw [hmi] at HMI0
      have HMI : Aside (Calls Try.prog g (#[.int .i64 i] ++ cb) wr fun e w' => e = .returned (.bool true) ∧ ∃ q os, w' = grow (wr.drewN q) os) := HMI0
      clear HMI0
      cases f with
      | true =>
       have HE1 : Hid (maxM may (l.drop (i + 1)) (i + 1) false x = maxM may l 0 true 0) := by rw [if_pos ⟨hmi, Or.inl rfl⟩] at HE0; exact HE0
       clear HE0 hmi
       go_wp2_with fail
       ((with_reducible refine HMI.out.mono ?_))
       rintro e' w3 ⟨rfl, q3, os3, rfl⟩
       have HB3 : Aside (∀ k, Below W1.heap.size W1 ((grow (wr.drewN q3) os3).drewN k)) := fun k => by
        have h := below_of_grow HB.out q3 os3
        exact ⟨h.os, h.tape, h.output, h.size, h.block⟩
       clear HB hcx
       generalize grow (wr.drewN q3) os3 = w3 at HB3 ⊢
       go_wp2
       go_roundg (l0.length - (i + 1))
       case measure => omega
       case rel => exact ⟨i + 1, false, x, rfl, rfl, by go_num, by omega, Nat.le_refl _, HB3.out 0, HE1⟩
      | false =>
       by_cases hgt : x > m
       ·have HE1 : Hid (maxM may (l.drop (i + 1)) (i + 1) false x = maxM may l 0 true 0) := by rw [if_pos ⟨hmi, Or.inr hgt⟩] at HE0; exact HE0
        have hgd : decide (x > m) = true := decide_eq_true hgt
        clear HE0 hmi
        go_wp2_with fail
        ((with_reducible refine HMI.out.mono ?_))
        rintro e' w3 ⟨rfl, q3, os3, rfl⟩
        have HB3 : Aside (∀ k, Below W1.heap.size W1 ((grow (wr.drewN q3) os3).drewN k)) := fun k => by
         have h := below_of_grow HB.out q3 os3
         exact ⟨h.os, h.tape, h.output, h.size, h.block⟩
        clear HB hcx
        generalize grow (wr.drewN q3) os3 = w3 at HB3 ⊢
        go_wp2
        go_roundg (l0.length - (i + 1))
        case measure => omega
        case rel => exact ⟨i + 1, false, x, rfl, rfl, by go_num, by omega, Nat.le_refl _, HB3.out 0, HE1⟩
       ·have HE1 : Hid (maxM may (l.drop (i + 1)) (i + 1) false m = maxM may l 0 true 0) := by rw [if_neg (by rintro ⟨_, h | h⟩; cases h; exact hgt h)] at HE0; exact HE0
        have hgd : decide (x > m) = false := decide_eq_false hgt
        clear HE0 hmi
        go_wp2_with fail
        ((with_reducible refine HMI.out.mono ?_))
        rintro e' w3 ⟨rfl, q3, os3, rfl⟩
        have HB3 : Aside (∀ k, Below W1.heap.size W1 ((grow (wr.drewN q3) os3).drewN k)) := fun k => by
         have h := below_of_grow HB.out q3 os3
         exact ⟨h.os, h.tape, h.output, h.size, h.block⟩
        clear HB hcx
        generalize grow (wr.drewN q3) os3 = w3 at HB3 ⊢
        go_wp2
        go_roundg (l0.length - (i + 1))
        case measure => omega
        case rel => exact ⟨i + 1, false, m, rfl, rfl, by go_num, by omega, Nat.le_refl _, HB3.out 0, HE1⟩
    ·have hltz : ¬ (i : Int) < (l0.length : Int) := by omega
     obtain rfl : i = l0.length := by omega
     have hmm : m = maxM may l 0 true 0 := by
      have h := HE.out
      rw [List.drop_eq_nil_of_le (by have := HLN.out; omega), maxM] at h
      exact h
     have HR2 : Hid (r = outH may a0 a1 m l 0) := by show _ = _; rw [hmm]; exact HR.out
     have HXR : Aside (wr.heap[w.heap.size]? = some (.cells #[.int .i64 a0, .int .i64 a1, .int .i64 a2, .int .i64 a3, .int .i64 a4, .slice A5 l5.length c5] 24 (0, 0))) := blk_below HXW.out HB.out
     clear HE HR hmm hkx hi HXW
     have mk := MK.out
     go_wp2
     clear mk MK
     have S0 : Aside (RowI .i64 2 wr.heap.size wr.heap.size l0.length (List.replicate l0.length 0) (wr.alloc (.cells (madeCells #[.int .i64 0] l0.length) 2))) := RowI.made .i64 2 wr l0.length hn
     have hal : Below wr.heap.size wr (wr.alloc (.cells (madeCells #[.int .i64 0] l0.length) 2)) := (Below.refl _ wr).alloc (Nat.le_refl _) _
     have HX0 : Aside ((wr.alloc (.cells (madeCells #[.int .i64 0] l0.length) 2)).heap[w.heap.size]? = some (.cells #[.int .i64 a0, .int .i64 a1, .int .i64 a2, .int .i64 a3, .int .i64 a4, .slice A5 l5.length c5] 24 (0, 0))) := blk_below HXR.out hal
     have H0 : Aside (Below W1.heap.size W1 (wr.alloc (.cells (madeCells #[.int .i64 0] l0.length) 2))) := HB.out.trans (hal.mono HB.out.size)
     have HB2 : Hid (W1.heap.size ≤ wr.heap.size) := HB.out.size
     generalize wr.heap.size = b2 at *
     generalize wr.alloc (.cells (madeCells #[.int .i64 0] l0.length) 2) = W2 at *
     clear hal HXR HB
     go_loopg [64] l0.length (fun kx s64 wr => ∃ (i : Nat) (o : List Int), s64 = .int .i64 i ∧ i ≤ l0.length ∧ l0.length - i ≤ kx ∧ Hid (o.length = l0.length) ∧ Aside (Below W1.heap.size W1 wr) ∧ Aside (wr.heap[w.heap.size]? = some (.cells #[.int .i64 a0, .int .i64 a1, .int .i64 a2, .int .i64 a3, .int .i64 a4, .slice A5 l5.length c5] 24 (0, 0))) ∧ Aside (RowI .i64 2 b2 b2 l0.length o wr) ∧ Hid (o.take i ++ outH may a0 a1 m (l.drop i) i = outH may a0 a1 m l 0) ∧ Aside (∀ j, i ≤ j → o.getD j 0 = 0))
     case atStart => exact ⟨0, List.replicate l0.length 0, rfl, by omega, by omega, List.length_replicate, H0, HX0, S0, rfl, by intro j _; simp [List.getD_eq_getElem?_getD, List.getElem?_replicate]; split <;> rfl⟩
     case round =>
      clear H0 HX0 S0
      obtain ⟨i, o, rfl, hi, hkx, HOL, HB, HX, HRW, HE, HZ⟩ := hrel
      by_cases hlt : i < l0.length
      ·have hltz : (i : Int) < (l0.length : Int) := by omega
       have hcx := cell_at_below HB.out HBW.out (SC.out i hlt)
       have HMI0 := HM.out wr (HWW.out.trans (HB.out.mono HWW.out.size)) i hlt
       obtain ⟨x, hx⟩ : ∃ x, x = l.getD i 0 := ⟨_, rfl⟩
       have HE0 := HE.out
       have hd : l.drop i = l.getD i 0 :: l.drop (i + 1) := by
        have hq : i < l.length := by have := HLN.out; omega
        rw [List.drop_eq_getElem_cons hq, List.getD_eq_getElem?_getD, List.getElem?_eq_getElem hq]; rfl
       rw [hd, outH] at HE0
       rw [← hx] at HE0 hcx
       clear HE hd hx
       cases hmi : may i with
       | false =>
        rw [hmi] at HMI0
        have HMI : Aside (Calls Try.prog g (#[.int .i64 i] ++ cb) wr fun e w' => e = .returned (.bool false) ∧ ∃ q os, w' = grow (wr.drewN q) os) := HMI0
        have HE1 : Hid (o.take (i + 1) ++ outH may a0 a1 m (l.drop (i + 1)) (i + 1) = outH may a0 a1 m l 0) := by
         show _ = _
         rw [if_neg (by rw [hmi]; decide)] at HE0
         have hq : i < o.length := by have := HOL.out; omega
         rw [List.take_succ_eq_append_getElem hq]
         have hz := HZ.out i (Nat.le_refl _)
         rw [List.getD_eq_getElem?_getD, List.getElem?_eq_getElem hq] at hz
         have hz' : o[i] = 0 := hz
         rw [hz', List.append_assoc]
         exact HE0
        have HZ1 : Aside (∀ j, i + 1 ≤ j → o.getD j 0 = 0) := fun j hj => HZ.out j (by omega)
        clear HMI0 HE0 hmi HZ
        go_wp2_with fail
        ((with_reducible refine HMI.out.mono ?_))
        rintro e' w3 ⟨rfl, q3, os3, rfl⟩
        have hbg := below_self_grow wr q3 os3
        have HB3 : Aside (Below W1.heap.size W1 (grow (wr.drewN q3) os3)) := HB.out.trans (hbg.mono HB.out.size)
        have HX3 : Aside ((grow (wr.drewN q3) os3).heap[w.heap.size]? = some (.cells #[.int .i64 a0, .int .i64 a1, .int .i64 a2, .int .i64 a3, .int .i64 a4, .slice A5 l5.length c5] 24 (0, 0))) := blk_below HX.out hbg
        have HR3 : Aside (RowI .i64 2 b2 b2 l0.length o (grow (wr.drewN q3) os3)) := HRW.out.below hbg
        clear HB hcx HX HRW hbg
        generalize grow (wr.drewN q3) os3 = w3 at HB3 HX3 HR3 ⊢
        go_wp2
        go_roundg (l0.length - (i + 1))
        case measure => omega
        case rel => exact ⟨i + 1, o, by go_num, by omega, Nat.le_refl _, HOL, HB3, HX3, HR3, HE1, HZ1⟩
       | true =>
        rw [hmi] at HMI0
        have HMI : Aside (Calls Try.prog g (#[.int .i64 i] ++ cb) wr fun e w' => e = .returned (.bool true) ∧ ∃ q os, w' = grow (wr.drewN q) os) := HMI0
        have HE1 : Hid ((o.set i (outV a0 a1 m x)).take (i + 1) ++ outH may a0 a1 m (l.drop (i + 1)) (i + 1) = outH may a0 a1 m l 0) := by
         show _ = _
         rw [if_pos hmi] at HE0
         have hq : i < o.length := by have := HOL.out; omega
         rw [List.take_succ_eq_append_getElem (by rw [List.length_set]; exact hq), List.getElem_set_self, List.take_set_of_le (Nat.le_refl _), List.append_assoc]
         exact HE0
        have HZ1 : Aside (∀ j, i + 1 ≤ j → (o.set i (outV a0 a1 m x)).getD j 0 = 0) := fun j hj => by
         have h := HZ.out j (by omega)
         rw [List.getD_eq_getElem?_getD] at h ⊢
         rw [List.getElem?_set_ne (by omega)]
         exact h
        clear HMI0 HE0 hmi HZ
        go_wp2_with fail
        ((with_reducible refine HMI.out.mono ?_))
        rintro e' w3 ⟨rfl, q3, os3, rfl⟩
        have hbg := below_self_grow wr q3 os3
        have HB3 : Aside (Below W1.heap.size W1 (grow (wr.drewN q3) os3)) := HB.out.trans (hbg.mono HB.out.size)
        have HX3 : Aside ((grow (wr.drewN q3) os3).heap[w.heap.size]? = some (.cells #[.int .i64 a0, .int .i64 a1, .int .i64 a2, .int .i64 a3, .int .i64 a4, .slice A5 l5.length c5] 24 (0, 0))) := blk_below HX.out hbg
        have HR3 : Aside (RowI .i64 2 b2 b2 l0.length o (grow (wr.drewN q3) os3)) := HRW.out.below hbg
        clear HB hcx HX HRW hbg
        generalize grow (wr.drewN q3) os3 = w3 at HB3 HX3 HR3 ⊢
        have hx0 : w3.cell? ⟨w.heap.size, 0, none⟩ = some (.int .i64 a0) := by unfold World.cell?; rw [HX3.out]; rfl
        have hx1 : w3.cell? ⟨w.heap.size, 1, none⟩ = some (.int .i64 a1) := by unfold World.cell?; rw [HX3.out]; rfl
        have HZV : Hid (outV a0 a1 m x = expF (wrap64 (256 * (wrap64 (wrap64 (x - m) * a0) / a1)))) := rfl
        have HVR : Aside (∀ v : Int, -9223372036854775808 ≤ wrap64 v ∧ wrap64 v ≤ 9223372036854775807) := fun v => by unfold wrap64; omega
        have HB4 : Aside (∀ q, Below W1.heap.size W1 (w3.drewN q)) := fun q => ⟨HB3.out.os, HB3.out.tape, HB3.out.output, HB3.out.size, HB3.out.block⟩
        have HX4 : Aside (∀ q, (w3.drewN q).heap[w.heap.size]? = some (.cells #[.int .i64 a0, .int .i64 a1, .int .i64 a2, .int .i64 a3, .int .i64 a4, .slice A5 l5.length c5] 24 (0, 0))) := fun q => HX3.out
        have HR4 : Aside (∀ q, RowI .i64 2 b2 b2 l0.length o (w3.drewN q)) := fun q => HR3.out.drewN q
        clear HB3 HX3 HR3
        go_wp2_with fail
        ((with_reducible refine (HF.out (wrap64 (wrap64 (x - m) * a0)) _ (HVR.out _).1 (HVR.out _).2).mono ?_))
        rintro e' w4 ⟨rfl, q4, rfl⟩
        clear hx0 hx1
        generalize wrap64 (wrap64 (x - m) * a0) % a1 = zr
        obtain ⟨z, hz⟩ : ∃ z, z = wrap64 (wrap64 (x - m) * a0) / a1 := ⟨_, rfl⟩
        rw [← hz] at HZV ⊢
        clear hz
        go_wp2_with fail
        ((with_reducible refine (exp_calls _ _ (HVR.out _)).mono ?_))
        rintro e' w5 ⟨rfl, hB5⟩
        have HB5 : Aside (Below W1.heap.size W1 w5) := (HB4.out _).trans (hB5.mono (HB4.out _).size)
        have HX5 : Aside (w5.heap[w.heap.size]? = some (.cells #[.int .i64 a0, .int .i64 a1, .int .i64 a2, .int .i64 a3, .int .i64 a4, .slice A5 l5.length c5] 24 (0, 0))) := blk_below (HX4.out _) hB5
        have HR5 : Aside (RowI .i64 2 b2 b2 l0.length o w5) := (HR4.out _).below hB5
        rw [HZV.out] at HE1 HZ1
        clear HB4 HX4 HR4 hB5 HZV HVR
        generalize expF (wrap64 (256 * z)) = y at *
        have hq : i < o.length := by have := HOL.out; omega
        have hcl := HR5.out.cell i hq
        have hfr := HR5.out.frozen i hq
        have HR6 : Aside (RowI .i64 2 b2 b2 l0.length (o.set i y) (w5.setCell ⟨b2, i, none⟩ (.int .i64 y))) := HR5.out.set i y
        have HB6 : Aside (Below W1.heap.size W1 (w5.setCell ⟨b2, i, none⟩ (.int .i64 y))) := HB5.out.setCell HB2.out _
        have HX6 : Aside ((w5.setCell ⟨b2, i, none⟩ (.int .i64 y)).heap[w.heap.size]? = some (.cells #[.int .i64 a0, .int .i64 a1, .int .i64 a2, .int .i64 a3, .int .i64 a4, .slice A5 l5.length c5] 24 (0, 0))) := blk_far HX5.out (by show w.heap.size ≠ b2; have h1 := HB2.out; have h2 := HBW.out; have h3 := HB0.out; omega) _
        have HOL1 : Hid ((o.set i y).length = l0.length) := by show _ = _; rw [List.length_set]; exact HOL.out
        clear HR5 HB5 HX5 HOL hq
        go_wp2
        go_roundg (l0.length - (i + 1))
        case measure => omega
        case rel => exact ⟨i + 1, _, by go_num, by omega, Nat.le_refl _, HOL1, HB6, HX6, HR6, HE1, HZ1⟩
      ·have hltz : ¬ (i : Int) < (l0.length : Int) := by omega
       have hro : r = o := by
        have h := HE.out
        rw [List.drop_eq_nil_of_le (by have := HLN.out; omega), outH, List.append_nil, List.take_of_length_le (by have := HOL.out; omega)] at h
        rw [HR2.out, h]
       have hR := HRW.out
       unfold RowI at hR
       rw [HOL.out] at hR
       have HRF : Aside (Kd.R (Kd.int .i64) 2 wr w.heap.size (fun _ => True) (.slice (some ⟨b2, 0, none⟩) l0.length l0.length) r) := by
        rw [hro]
        exact Kd.R_lower hR (by have h1 := HB2.out; have h2 := HBW.out; have h3 := HB0.out; omega)
       have HBF : Aside (Below w.heap.size w wr) := HWW.out.trans (HB.out.mono HWW.out.size)
       clear HE HZ HRW HX HB HR2 hro hR
       go_wp2
       refine bodyPost_ret (results_tmp rfl _ _ _) rfl ?_
       exact ⟨_, rfl, HRF.out, HBF.out⟩
end Go.Proofs.Ythmckhfjaleomaa.St
