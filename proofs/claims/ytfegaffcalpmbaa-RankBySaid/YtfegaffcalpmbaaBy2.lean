/- rank.By at things. -/
import Derived.Test.YtfegaffcalpmbaaBy1
import Derived.Laws.EntriesVeiled
namespace Go.Proofs.Ytfegaffcalpmbaa.St
open Go.Proofs Go.Shelf Go.RowKit Go.Lib Go.Sort Go.Proofs.YtfegaffcalpmbaaW.PrintWords
/-- How things lie. -/
def ThingRow (w : World) (A : Option Addr) (ts : List (Int × ByteArray)) : Prop := ∀ i, i < ts.length → ∃ ad, A = some ad ∧ w.cell? (ad.add (i * 2)) = some (.int .i64 (ts.getD i (0, ByteArray.empty)).1) ∧ w.cell? ⟨(ad.add (i * 2)).block, (ad.add (i * 2)).off + 1, none⟩ = some (.string (ts.getD i (0, ByteArray.empty)).2)
theorem cell_lt' {w : World} {a : Addr} {v : Value} (h : w.cell? a = some v) : a.block < w.heap.size := by
  unfold World.cell? at h
  rcases Nat.lt_or_ge a.block w.heap.size with h2 | h2
  · exact h2
  · rw [Array.getElem?_eq_none h2] at h; cases h
theorem cell_up {w W : World} {B : Nat} (hB : Below B w W) {a : Addr} {v : Value} (h : w.cell? a = some v) (ha : a.block < B) : W.cell? a = some v := by
  unfold World.cell? at h ⊢
  rw [hB.block a.block ha]
  exact h
theorem ThingRow.kept {w W : World} {A : Option Addr} {ts : List (Int × ByteArray)} (h : ThingRow w A ts) (hB : Below w.heap.size w W) : ThingRow W A ts := fun i hi => by
  obtain ⟨ad, e, h0, h1⟩ := h i hi
  exact ⟨ad, e, cell_up hB h0 (cell_lt' h0), cell_up hB h1 (cell_lt' h1)⟩
/-- By's two variables. -/
theorem by_boxes (w : World) (l f : Value) : Below w.heap.size w ((w.alloc (.cells #[l] 36)).alloc (.cells #[f] 41)) ∧ ((w.alloc (.cells #[l] 36)).alloc (.cells #[f] 41)).heap.size = w.heap.size + 2 ∧
    ((w.alloc (.cells #[l] 36)).alloc (.cells #[f] 41)).cell? ⟨w.heap.size, 0, none⟩ = some l ∧ ((w.alloc (.cells #[l] 36)).alloc (.cells #[f] 41)).cell? ⟨w.heap.size + 1, 0, none⟩ = some f := by
  have hs : (w.alloc (.cells #[l] 36)).heap.size = w.heap.size + 1 := World.size_alloc _ _
  refine ⟨below_alloc (below_alloc (Below.refl _ w) _) _, by rw [World.size_alloc, hs], ?_, ?_⟩
  · have h0 : (w.alloc (.cells #[l] 36)).cell? ⟨w.heap.size, 0, none⟩ = some l := by unfold World.cell?; rw [heap_alloc_new w _]; rfl
    exact cell_up (below_alloc (Below.refl _ _) _) h0 (cell_lt' h0)
  · have h := heap_alloc_new (w.alloc (.cells #[l] 36)) (.cells #[f] 41)
    rw [hs] at h
    unfold World.cell?
    rw [h]
    rfl
set_option maxRecDepth 1000000 in
set_option maxHeartbeats 1000000 in
theorem by_calls (dB : Nat) (down : Bool) (A0 : Option Addr) (c0 : Nat) (ts : List (Int × ByteArray)) (w : World) (hd : w.cell? ⟨dB, 0, none⟩ = some (.bool down)) (hT : ThingRow w A0 ts) (hn : ts.length ≤ 17592186044416) :
    Calls Try.prog 19 #[.slice A0 ts.length c0, .func (.func 20) #[] #[.pointer (some ⟨dB, 0, none⟩)]] w fun e w' => ∃ v, e = .returned v ∧ Kd.R (Kd.int .i64) 3 w' w.heap.size (fun _ => True) v (places (fun x y => cfB down (ts.getD x (0, ByteArray.empty)).1 (ts.getD y (0, ByteArray.empty)).1) ts.length) ∧ Below w.heap.size w w' := by
  obtain ⟨hb1, hs2, hl, ha⟩ := by_boxes w (.slice A0 ts.length c0) (.func (.func 20) #[] #[.pointer (some ⟨dB, 0, none⟩)])
  obtain ⟨V, hV⟩ : ∃ V, V = (w.alloc (.cells #[.slice A0 ts.length c0] 36)).alloc (.cells #[.func (.func 20) #[] #[.pointer (some ⟨dB, 0, none⟩)]] 41) := ⟨_, rfl⟩
  rw [← hV] at hb1 hs2 hl ha
  have hdV := cell_up hb1 hd (cell_lt' hd)
  have hcmp : ∀ W, Below V.heap.size V W → ∀ x y : Nat, x < ts.length → y < ts.length →
      Calls Try.prog 45 (#[.int .i64 x, .int .i64 y] ++ #[.pointer (some ⟨w.heap.size + 1, 0, none⟩), .pointer (some ⟨w.heap.size, 0, none⟩)]) W fun e w' => e = .returned (.int .i64 (cfB down (ts.getD x (0, ByteArray.empty)).1 (ts.getD y (0, ByteArray.empty)).1)) ∧ ∃ q os, w' = grow (W.drewN q) os := by
    intro W hW x y hx hy
    have hR := hT.kept (hb1.trans (hW.mono (by omega)))
    obtain ⟨ad, rfl, i0, i1⟩ := hR x hx
    obtain ⟨ad', e', j0, j1⟩ := hR y hy
    injection e' with e'
    subst e'
    exact by1_calls (w.heap.size + 1) w.heap.size dB down ad ts.length c0 x y _ _ _ _ W hx hy (cell_up hW ha (cell_lt' ha)) (cell_up hW hl (cell_lt' hl)) (cell_up hW hdV (cell_lt' hdV)) i0 i1 j0 j1
  have eg : ∀ args w, (callFunc 45 args).run Try.prog w = .ok (.enter 45 args) w := enters_of Try.func45 (by kernel_rfl) rfl
  have HS := Aside0.mk (sorted_calls (fun x y => cfB down (ts.getD x (0, ByteArray.empty)).1 (ts.getD y (0, ByteArray.empty)).1) 45 #[.pointer (some ⟨w.heap.size + 1, 0, none⟩), .pointer (some ⟨w.heap.size, 0, none⟩)] ts.length V hn eg hcmp)
  have HB := Aside0.mk (And.intro hb1 hs2)
  have HV := Aside0.mk hV
  clear hcmp hb1 hs2 hl ha hdV eg hd hT hV
  go_enter Try.func19, Try.ntmps19
  go_wp2_with fail
  rw [← HV.out]
  refine HS.out.mono ?_
  rintro e' w2 ⟨v, rfl, h1, h2⟩
  go_wp2
  refine bodyPost_ret (results_tmp rfl _ _ _) rfl ?_
  have hs := HB.out.2
  exact ⟨_, rfl, Kd.R_lower h1 (by omega), HB.out.1.trans (h2.mono (by omega))⟩
set_option maxRecDepth 1000000 in
theorem by1_nil (aB lB i j : Nat) (w : World) (ha : w.cell? ⟨aB, 0, none⟩ = some .nilFunc) :
    Calls Try.prog 45 (#[.int .i64 i, .int .i64 j] ++ #[.pointer (some ⟨aB, 0, none⟩), .pointer (some ⟨lB, 0, none⟩)]) w fun e w' => e = .returned (.int .i64 (0 : Int)) ∧ ∃ q os, w' = grow (w.drewN q) os := by
  show Calls Try.prog 45 #[.int .i64 i, .int .i64 j, .pointer (some ⟨aB, 0, none⟩), .pointer (some ⟨lB, 0, none⟩)] w _
  have eqn : ∀ w, (binOp .eql 41 .nilFunc .nilFunc).run Try.prog w = .ok (.bool true) w := fun _ => by kernel_rfl
  go_enter Try.func45, Try.ntmps45
  go_wp2
  refine bodyPost_ret (results_tmp rfl _ _ _) rfl ?_
  exact ⟨rfl, 0, #[], by rw [grow_empty]; rfl⟩
set_option maxRecDepth 1000000 in
set_option maxHeartbeats 1000000 in
theorem by_nil (A0 : Option Addr) (c0 : Nat) (ts : List (Int × ByteArray)) (w : World) (hn : ts.length ≤ 17592186044416) :
    Calls Try.prog 19 #[.slice A0 ts.length c0, .nilFunc] w fun e w' => ∃ v, e = .returned v ∧ Kd.R (Kd.int .i64) 3 w' w.heap.size (fun _ => True) v (places (fun _ _ => (0 : Int)) ts.length) ∧ Below w.heap.size w w' := by
  obtain ⟨hb1, hs2, hl, ha⟩ := by_boxes w (.slice A0 ts.length c0) .nilFunc
  obtain ⟨V, hV⟩ : ∃ V, V = (w.alloc (.cells #[.slice A0 ts.length c0] 36)).alloc (.cells #[.nilFunc] 41) := ⟨_, rfl⟩
  rw [← hV] at hb1 hs2 hl ha
  have hcmp : ∀ W, Below V.heap.size V W → ∀ x y : Nat, x < ts.length → y < ts.length →
      Calls Try.prog 45 (#[.int .i64 x, .int .i64 y] ++ #[.pointer (some ⟨w.heap.size + 1, 0, none⟩), .pointer (some ⟨w.heap.size, 0, none⟩)]) W fun e w' => e = .returned (.int .i64 ((0 : Int))) ∧ ∃ q os, w' = grow (W.drewN q) os := by
    intro W hW x y _ _
    exact by1_nil (w.heap.size + 1) w.heap.size x y W (cell_up hW ha (cell_lt' ha))
  have eg : ∀ args w, (callFunc 45 args).run Try.prog w = .ok (.enter 45 args) w := enters_of Try.func45 (by kernel_rfl) rfl
  have HS := Aside0.mk (sorted_calls (fun _ _ => (0 : Int)) 45 #[.pointer (some ⟨w.heap.size + 1, 0, none⟩), .pointer (some ⟨w.heap.size, 0, none⟩)] ts.length V hn eg hcmp)
  have HB := Aside0.mk (And.intro hb1 hs2)
  have HV := Aside0.mk hV
  clear hcmp hb1 hs2 hl ha eg hV
  go_enter Try.func19, Try.ntmps19
  go_wp2_with fail
  rw [← HV.out]
  refine HS.out.mono ?_
  rintro e' w2 ⟨v, rfl, h1, h2⟩
  go_wp2
  refine bodyPost_ret (results_tmp rfl _ _ _) rfl ?_
  have hs := HB.out.2
  exact ⟨_, rfl, Kd.R_lower h1 (by omega), HB.out.1.trans (h2.mono (by omega))⟩
end Go.Proofs.Ytfegaffcalpmbaa.St
