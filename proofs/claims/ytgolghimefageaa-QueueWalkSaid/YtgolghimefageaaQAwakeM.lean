/- Several texts in one (QTA, QTB, QTC, QTD, QTE, QTF, QTG, QTH, QTI, QTJ, QTK, QTKG, QAwake). -/
import Derived.Test.YtgolghimefageaaQ0
import Derived.Sort.Walk0
import Derived.Sort.Grow
import Derived.Shelf.SlSortCmp.QuietGrown
import Derived.WideShapes
import Derived.Lib.Strings
import Derived.Sort.LoopGhostIn
import Derived.Lib.OwnBridge
import Derived.LaidEql
import Derived.Ground.SlgnProg
/- A queue: how it lies; New, Len. -/
namespace Go.Proofs.Ytgolghimefageaa.QT
open Go.Proofs Go.RowKit Go.Maps Go.Proofs.YtgolghimefageaaW.PrintWords Go.Proofs.YtgolghimefageaaW.PrintLast Go.Proofs.YtgolghimefageaaW.PrintMore Go.Proofs.Ytgolghimefageaa.St
/-- What is kept, and where it lies. -/
structure El where
 p : Nat
 k : Int
 v : ByteArray
 came : Int
 ticket : Int
instance : Inhabited El := ⟨⟨0, 0, ByteArray.empty, 0, 0⟩⟩
def klt (a b : Int) : Bool := decide (a < b)
def Ahead (x y : El) : Prop := klt x.k y.k = true ∨ (x.k = y.k ∧ x.came < y.came)
def elCells (x : El) : Array Value := #[(.int .i64 x.k), (.string x.v), .int .i64 x.came, .int .i64 x.ticket]
def ptrs (E : List El) : List Value := E.map fun x => Value.pointer (some ⟨x.p, 0, none⟩)
/-- The map of tickets says what the list says. -/
structure MapOf (D : DataW Unit) (E : List El) : Prop where
 has : ∀ t : Int, Maps.has D (.int .i64 t) = E.any (fun x => decide (x.ticket = t))
 at_ : ∀ x ∈ E, ∀ z, D.atKey (.int .i64 x.ticket) z = .lit (.int .i64 (x.p : Int))
structure Good (E : List El) (came next : Int) : Prop where
 nodup : (E.map El.p).Nodup
 tick : (E.map El.ticket).Nodup
 range : ∀ x ∈ E, 0 ≤ x.ticket ∧ x.ticket < next ∧ 0 ≤ x.came ∧ x.came < came
 sorted : E.Pairwise Ahead
/-- A queue that lies at b; all its blocks are in P. -/
structure QAt (n0 : Nat) (w : World) (P : Nat → Prop) (b : Nat) (vl : Value) (mb nm : Nat) (E : List El) (most came next : Int) : Prop where
 hP : ∀ k, P k → n0 ≤ k
 pb : P b
 pm : P mb
 pl : ∀ k, vl.ownBlock = some k → P k
 pe : ∀ x ∈ E, P x.p
 blk : w.heap[b]? = some (.cells #[.int .i64 most, .int .i64 came, .int .i64 next, vl, .map (some mb)] 88 (0, 0))
 row : w.ownsRow n0 89 1 vl E.length (ptrs E)
 els : ∀ x ∈ E, w.heap[x.p]? = some (.cells (elCells x) 91 (0, 0))
 map : ∃ D : DataW Unit, w.ownsMap Try.prog 3 ptrR mb nm D ∧ MapOf D E
 good : Good E came next
theorem cells_at {w : World} {b : Nat} {cs : Array Value} {t : TypeId} (h : w.heap[b]? = some (.cells cs t (0, 0))) (j : Nat) (u : Value) (hu : cs[j]? = some u) : w.cell? ⟨b, j, none⟩ = some u := by
 rw [cell_of_row w b j _ _ (0, 0) h]; exact hu
theorem frozen_at {w : World} {b : Nat} {cs : Array Value} {t : TypeId} (h : w.heap[b]? = some (.cells cs t (0, 0))) (j : Nat) : w.frozen? ⟨b, j, none⟩ = false := by
 unfold World.frozen?
 rw [h]
 simp
section
variable {n0 : Nat} {w : World} {P : Nat → Prop} {b : Nat} {vl : Value} {mb nm : Nat} {E : List El} {most came next : Int}
theorem QAt.lt (h : QAt n0 w P b vl mb nm E most came next) : b < w.heap.size := (Array.getElem?_eq_some_iff.1 h.blk).1
theorem QAt.c0 (h : QAt n0 w P b vl mb nm E most came next) : w.cell? ⟨b, 0, none⟩ = some (.int .i64 most) := cells_at h.blk 0 _ rfl
theorem QAt.c1 (h : QAt n0 w P b vl mb nm E most came next) : w.cell? ⟨b, 1, none⟩ = some (.int .i64 came) := cells_at h.blk 1 _ rfl
theorem QAt.c2 (h : QAt n0 w P b vl mb nm E most came next) : w.cell? ⟨b, 2, none⟩ = some (.int .i64 next) := cells_at h.blk 2 _ rfl
theorem QAt.c3 (h : QAt n0 w P b vl mb nm E most came next) : w.cell? ⟨b, 3, none⟩ = some vl := cells_at h.blk 3 _ rfl
theorem QAt.c4 (h : QAt n0 w P b vl mb nm E most came next) : w.cell? ⟨b, 4, none⟩ = some (.map (some mb)) := cells_at h.blk 4 _ rfl
theorem QAt.frozen (h : QAt n0 w P b vl mb nm E most came next) (j : Nat) : w.frozen? ⟨b, j, none⟩ = false := frozen_at h.blk j
theorem QAt.kept {w' : World} {S : Nat → Prop} (h : QAt n0 w P b vl mb nm E most came next) (hk : Kept w w' S) (hS : ∀ k, P k → ¬ S k) : QAt n0 w' P b vl mb nm E most came next := by
 obtain ⟨D, hm, hD⟩ := h.map
 exact ⟨h.hP, h.pb, h.pm, h.pl, h.pe, blk_kept h.blk hk (hS _ h.pb), own_move h.row (fun k e => hk.2 k (h.row.lt k e).2 (hS k (h.pl k e))),
  fun x hx => blk_kept (h.els x hx) hk (hS _ (h.pe x hx)), ⟨D, own_same hm (hk.2 mb hm.lt (hS _ h.pm)), hD⟩, h.good⟩
theorem QAt.below {w' : World} (h : QAt n0 w P b vl mb nm E most came next) (hB : Below w.heap.size w w') : QAt n0 w' P b vl mb nm E most came next := h.kept (Kept.of_below hB (fun _ => False)) (fun _ _ h => h)
theorem QAt.mono {P' : Nat → Prop} (h : QAt n0 w P b vl mb nm E most came next) (hP : ∀ k, P k → P' k) (hb : ∀ k, P' k → n0 ≤ k) : QAt n0 w P' b vl mb nm E most came next :=
 ⟨hb, hP _ h.pb, hP _ h.pm, fun k e => hP k (h.pl k e), fun x hx => hP _ (h.pe x hx), h.blk, h.row, h.els, h.map, h.good⟩
theorem ptrs_len (E : List El) : (ptrs E).length = E.length := List.length_map _
end
theorem eqp (a : Addr) (w : World) : (binOp .eql 36 (.pointer (some a)) (.pointer none)).run Try.prog w = .ok (.bool false) w := by kernel_rfl
theorem nep (a : Addr) (w : World) : (binOp .neq 36 (.pointer (some a)) (.pointer none)).run Try.prog w = .ok (.bool true) w := by kernel_rfl
set_option maxRecDepth 100000 in
theorem len_calls {n0 : Nat} {w : World} {P : Nat → Prop} {b : Nat} {vl : Value} {mb nm : Nat} {E : List El} {most came next : Int} (h : QAt n0 w P b vl mb nm E most came next) : Calls Try.prog 16 #[.pointer (some ⟨b, 0, none⟩)] w fun e w' => e = .returned (.int .i64 (E.length : Int)) ∧ w' = w := by
 obtain ⟨a, cap, rfl⟩ := own_form h.row
 have hc := h.c3
 have eq := eqp ⟨b, 0, none⟩
 clear h
 go_enter Try.func16, Try.ntmps16
 go_wp2
 go_ret
 exact ⟨rfl, rfl⟩
theorem QAt.made (w : World) (most : Int) : QAt w.heap.size ((w.alloc (.map #[] 0)).alloc (.cells #[.int .i64 most, .int .i64 0, .int .i64 0, .slice none 0 0, .map (some w.heap.size)] 88)) (fun k => w.heap.size ≤ k) (w.heap.size + 1) (.slice none 0 0) w.heap.size 0 [] most 0 0 := by
 have hs : (w.alloc (.map #[] 0)).heap.size = w.heap.size + 1 := World.size_alloc _ _
 refine ⟨fun _ h => h, by omega, Nat.le_refl _, (fun k e => by cases e), (fun x hx => by cases hx), ?_, World.ownsRow_nil _ _ _ _, (fun x hx => by cases hx), ⟨.map [], (World.ownsMap_made w Try.prog 3 ptrR).alloc _, ⟨fun t => rfl, (fun x hx => by cases hx)⟩⟩, ⟨List.nodup_nil, List.nodup_nil, (fun x hx => by cases hx), List.Pairwise.nil⟩⟩
 have h := heap_alloc_new (w.alloc (.map #[] 0)) (.cells #[.int .i64 most, .int .i64 0, .int .i64 0, .slice none 0 0, .map (some w.heap.size)] 88)
 rw [hs] at h
 exact h
set_option maxRecDepth 100000 in
theorem new_calls (n : Int) (hn : 1 ≤ n ∧ n ≤ 65536) (w : World) : Calls Try.prog 14 #[.int .i64 n] w fun e w' => ∃ b mb, e = .returned (.tuple #[.pointer (some ⟨b, 0, none⟩), .int .i64 0]) ∧ QAt w.heap.size w' (fun k => w.heap.size ≤ k) b (.slice none 0 0) mb 0 [] n 0 0 ∧ Below w.heap.size w w' := by
 have h1 : decide (n < 1) = false := decide_eq_false (by omega)
 have h2 : decide (65536 < n) = false := decide_eq_false (by omega)
 have S0 := Aside0.mk (QAt.made w n)
 have B0 : Aside0 (Below w.heap.size w ((w.alloc (.map #[] 0)).alloc (.cells #[.int .i64 n, .int .i64 0, .int .i64 0, .slice none 0 0, .map (some w.heap.size)] 88))) := ⟨below_alloc (below_alloc (Below.refl _ w) _) _⟩
 have hmm := @run_makeMap Try.prog
 clear hn
 go_enter Try.func14, Try.ntmps14
 go_wp2
 go_ret2
 exact ⟨w.heap.size + 1, w.heap.size, by simp, S0.out, B0.out⟩
set_option maxRecDepth 100000 in
theorem new_no (n : Int) (hn : n < 1 ∨ 65536 < n) (w : World) : Calls Try.prog 14 #[.int .i64 n] w fun e w' => e = .returned (.tuple #[.pointer none, .int .i64 60]) ∧ w' = w := by
 by_cases c : n < 1
 ·have h1 : decide (n < 1) = true := decide_eq_true c
  clear hn c
  go_enter Try.func14, Try.ntmps14
  go_wp2
  go_ret2
  exact ⟨rfl, rfl⟩
 ·have h1 : decide (n < 1) = false := decide_eq_false c
  have h2 : decide (65536 < n) = true := decide_eq_true (by omega)
  clear hn c
  go_enter Try.func14, Try.ntmps14
  go_wp2
  go_ret2
  exact ⟨rfl, rfl⟩
end Go.Proofs.Ytgolghimefageaa.QT
/- A queue: which of two elements is ahead (cmp.Compare, compare), and where one belongs (slices.BinarySearchFunc). -/
namespace Go.Proofs.Ytgolghimefageaa.QT
open Go.Proofs Go.RowKit Go.Shelf Go.Lib Go.Sort Go.Maps Go.Proofs.YtgolghimefageaaW.PrintWords Go.Proofs.YtgolghimefageaaW.PrintLast Go.Proofs.YtgolghimefageaaW.PrintMore Go.Proofs.Ytgolghimefageaa.St
theorem klt_trans {a b c : Int} (h1 : klt a b = true) (h2 : klt b c = true) : klt a c = true := by
 unfold klt at *
 rw [decide_eq_true_eq] at *
 omega
theorem klt_irrefl (a : Int) : klt a a = false := by
 unfold klt
 rw [decide_eq_false_iff_not]
 omega
theorem klt_total (a b : Int) : klt a b = true ∨ a = b ∨ klt b a = true := by
 unfold klt
 rw [decide_eq_true_eq, decide_eq_true_eq]
 omega
/-- What cmp.Compare says. -/
def cmpK (a b : Int) : Int := if klt a b then -1 else if klt b a then 1 else 0
def cmpN (a b : Int) : Int := if a < b then -1 else if b < a then 1 else 0
/-- What compare says. -/
def cmpE (x y : El) : Int := if cmpK x.k y.k = 0 then cmpN x.came y.came else cmpK x.k y.k
theorem cmpK_neg {a b : Int} : cmpK a b < 0 ↔ klt a b = true := by
 unfold cmpK
 by_cases h : klt a b = true
 ·rw [if_pos h]; simp [h]
 ·rw [if_neg h]
  by_cases h2 : klt b a = true
  ·rw [if_pos h2]; simp [h]
  ·rw [if_neg h2]; simp [h]
theorem cmpK_zero {a b : Int} : cmpK a b = 0 ↔ a = b := by
 unfold cmpK
 constructor
 ·intro h
  rcases klt_total a b with h1 | h1 | h1
  ·rw [if_pos h1] at h; omega
  ·exact h1
  ·by_cases h2 : klt a b = true
   ·rw [if_pos h2] at h; omega
   ·rw [if_neg h2, if_pos h1] at h; omega
 ·rintro rfl
  rw [klt_irrefl]
  rfl
theorem cmpE_neg {x y : El} : cmpE x y < 0 ↔ Ahead x y := by
 unfold cmpE Ahead
 by_cases h : cmpK x.k y.k = 0
 ·rw [if_pos h]
  have e := cmpK_zero.1 h
  rw [e, klt_irrefl]
  unfold cmpN
  constructor
  ·intro h1
   refine .inr ⟨rfl, ?_⟩
   split at h1
   ·assumption
   ·split at h1 <;> omega
  ·rintro (h1 | ⟨_, h1⟩)
   ·cases h1
   ·rw [if_pos h1]; omega
 ·rw [if_neg h, cmpK_neg]
  constructor
  ·exact .inl
  ·rintro (h1 | ⟨h1, _⟩)
   ·exact h1
   ·exact absurd (cmpK_zero.2 h1) h
theorem ahead_trans {x y z : El} (h1 : Ahead x y) (h2 : Ahead y z) : Ahead x z := by
 unfold Ahead at *
 rcases h1 with h1 | ⟨h1, h1'⟩
 ·rcases h2 with h2 | ⟨h2, h2'⟩
  ·exact .inl (klt_trans h1 h2)
  ·rw [h2] at h1; exact .inl h1
 ·rcases h2 with h2 | ⟨h2, h2'⟩
  ·rw [h1]; exact .inl h2
  ·exact .inr ⟨h1.trans h2, by omega⟩
set_option maxRecDepth 100000 in
theorem isNaN_calls (x : Int) (w : World) : Calls Try.prog 59 #[(.int .i64 x)] w fun e w' => e = .returned (.bool false) ∧ ∃ q os, w' = grow (w.drewN q) os := by
 have h : (x != x) = false := by rw [bne_eq_false_iff_eq]
 go_enter Try.func59, Try.ntmps59
 go_wp2
 refine bodyPost_ret (results_tmp rfl _ _ _) rfl ?_
 exact ⟨rfl, 0, #[], by rw [grow_empty]; rfl⟩
theorem gtr_i (a b : Int) : decide (a > b) = klt b a := rfl
theorem lss_i (a b : Int) : decide (a < b) = klt a b := rfl
set_option maxRecDepth 100000 in
theorem cmpk_calls (x y : Int) (w : World) : Calls Try.prog 68 #[(.int .i64 x), (.int .i64 y)] w fun e w' => e = .returned (.int .i64 (cmpK x y)) ∧ ∃ q os, w' = grow (w.drewN q) os := by
 obtain ⟨t1, e1⟩ : ∃ t, t = klt x y := ⟨_, rfl⟩
 obtain ⟨t2, e2⟩ : ∃ t, t = klt y x := ⟨_, rfl⟩
 have HC : Hid (cmpK x y = if t1 then -1 else if t2 then 1 else 0) := by show _ = _; rw [e1, e2]; rfl
 have k1 : decide (x < y) = t1 := by rw [e1]; rfl
 have k2 : decide (y < x) = t2 := by rw [e2]; rfl
 clear e1 e2
 go_enter Try.func68, Try.ntmps68
 go_wp2_with fail
 ((with_reducible refine (isNaN_calls x _).mono ?_))
 rintro e' w1 ⟨rfl, q1, os1, rfl⟩
 go_wp2_with fail
 ((with_reducible refine (isNaN_calls y _).mono ?_))
 rintro e' w2 ⟨rfl, q2, os2, rfl⟩
 have hg : grow ((grow (w.drewN q1) os1).drewN q2) os2 = grow (w.drewN (q1 + q2)) (os1 ++ os2) := by
  show grow (grow ((w.drewN q1).drewN q2) os1) os2 = _
  rw [grow_grow, World.drewN_drewN]
 cases t1 with
 | true =>
  go_wp2
  refine bodyPost_ret (results_tmp rfl _ _ _) rfl ?_
  exact ⟨by rw [HC.out]; rfl, _, _, rfl⟩
 | false =>
  cases t2 with
  | true =>
   go_wp2
   refine bodyPost_ret (results_tmp rfl _ _ _) rfl ?_
   exact ⟨by rw [HC.out]; rfl, _, _, rfl⟩
  | false =>
   go_wp2
   refine bodyPost_ret (results_tmp rfl _ _ _) rfl ?_
   exact ⟨by rw [HC.out]; rfl, _, _, rfl⟩
end Go.Proofs.Ytgolghimefageaa.QT
/- A queue: compare, and where one belongs (slices.BinarySearchFunc). -/
namespace Go.Proofs.Ytgolghimefageaa.QT
open Go.Proofs Go.RowKit Go.Shelf Go.Lib Go.Sort Go.Maps Go.Proofs.YtgolghimefageaaW.PrintWords Go.Proofs.YtgolghimefageaaW.PrintLast Go.Proofs.YtgolghimefageaaW.PrintMore Go.Proofs.Ytgolghimefageaa.St
set_option maxRecDepth 100000 in
theorem isNaNi_calls (x : Int) (w : World) : Calls Try.prog 76 #[.int .i64 x] w fun e w' => e = .returned (.bool false) ∧ ∃ q os, w' = grow (w.drewN q) os := by
 have h : (x != x) = false := by rw [bne_eq_false_iff_eq]
 go_enter Try.func76, Try.ntmps76
 go_wp2
 refine bodyPost_ret (results_tmp rfl _ _ _) rfl ?_
 exact ⟨rfl, 0, #[], by rw [grow_empty]; rfl⟩
set_option maxRecDepth 100000 in
theorem cmpn_calls (x y : Int) (w : World) : Calls Try.prog 63 #[.int .i64 x, .int .i64 y] w fun e w' => e = .returned (.int .i64 (cmpN x y)) ∧ ∃ q os, w' = grow (w.drewN q) os := by
 obtain ⟨t1, e1⟩ : ∃ t, t = decide (x < y) := ⟨_, rfl⟩
 obtain ⟨t2, e2⟩ : ∃ t, t = decide (y < x) := ⟨_, rfl⟩
 have HC : Hid (cmpN x y = if t1 then -1 else if t2 then 1 else 0) := by show _ = _; rw [e1, e2]; unfold cmpN; simp only [decide_eq_true_eq]
 have k1 : decide (x < y) = t1 := by rw [e1]
 have k2 : decide (y < x) = t2 := by rw [e2]
 clear e1 e2
 go_enter Try.func63, Try.ntmps63
 go_wp2_with fail
 ((with_reducible refine (isNaNi_calls x _).mono ?_))
 rintro e' w1 ⟨rfl, q1, os1, rfl⟩
 go_wp2_with fail
 ((with_reducible refine (isNaNi_calls y _).mono ?_))
 rintro e' w2 ⟨rfl, q2, os2, rfl⟩
 have hg : grow ((grow (w.drewN q1) os1).drewN q2) os2 = grow (w.drewN (q1 + q2)) (os1 ++ os2) := by
  show grow (grow ((w.drewN q1).drewN q2) os1) os2 = _
  rw [grow_grow, World.drewN_drewN]
 cases t1 with
 | true =>
  go_wp2
  refine bodyPost_ret (results_tmp rfl _ _ _) rfl ?_
  exact ⟨by rw [HC.out]; rfl, _, _, rfl⟩
 | false =>
  cases t2 with
  | true =>
   go_wp2
   refine bodyPost_ret (results_tmp rfl _ _ _) rfl ?_
   exact ⟨by rw [HC.out]; rfl, _, _, rfl⟩
  | false =>
   go_wp2
   refine bodyPost_ret (results_tmp rfl _ _ _) rfl ?_
   exact ⟨by rw [HC.out]; rfl, _, _, rfl⟩
/-- An element lies in w. -/
def ElAt (w : World) (x : El) : Prop := w.heap[x.p]? = some (.cells (elCells x) 91 (0, 0))
theorem ElAt.cells {w : World} {x : El} (h : ElAt w x) : w.cell? ⟨x.p, 0, none⟩ = some (.int .i64 x.k) ∧ w.cell? ⟨x.p, 1, none⟩ = some (.string x.v) ∧ w.cell? ⟨x.p, 2, none⟩ = some (.int .i64 x.came) ∧ w.cell? ⟨x.p, 3, none⟩ = some (.int .i64 x.ticket) :=
 ⟨cells_at h 0 _ rfl, cells_at h 1 _ rfl, cells_at h 2 _ rfl, cells_at h 3 _ rfl⟩
theorem ElAt.lt {w : World} {x : El} (h : ElAt w x) : x.p < w.heap.size := (Array.getElem?_eq_some_iff.1 h).1
set_option maxRecDepth 100000 in
set_option maxHeartbeats 1000000 in
theorem cmp_calls (x y : El) (w : World) (hx : ElAt w x) (hy : ElAt w y) : Calls Try.prog 53 #[.pointer (some ⟨x.p, 0, none⟩), .pointer (some ⟨y.p, 0, none⟩)] w fun e w' => e = .returned (.int .i64 (cmpE x y)) ∧ Below w.heap.size w w' := by
 have mixed : Try.prog.follows .mixedOrders = true := by kernel_rfl
 have g0 : ∀ (p j : Nat) v, p < w.heap.size → w.cell? ⟨p, j, none⟩ = some v → ∀ n os, (grow (w.drewN n) os).cell? ⟨p, j, none⟩ = some v := by
  intro p j v hl h n os
  rw [cell?_grow (w.drewN n) os ⟨p, j, none⟩ hl]
  exact h
 obtain ⟨x0, _, x2, _⟩ := hx.cells
 obtain ⟨y0, _, y2, _⟩ := hy.cells
 have lx := g0 _ _ _ hx.lt x0
 have lx2 := Aside0.mk (g0 _ _ _ hx.lt x2)
 have ly := g0 _ _ _ hy.lt y0
 have ly2 := Aside0.mk (g0 _ _ _ hy.lt y2)
 have HE : Hid (cmpE x y = if cmpK x.k y.k = 0 then cmpN x.came y.came else cmpK x.k y.k) := rfl
 have HB : Aside0 (∀ q os, Below w.heap.size w (grow (w.drewN q) os)) := ⟨fun q os => ⟨rfl, rfl, rfl, by show _ ≤ (w.heap ++ os).size; rw [Array.size_append]; omega, fun i hi => by show (w.heap ++ os)[i]? = _; rw [Array.getElem?_append_left hi]⟩⟩
 obtain ⟨c, hc⟩ : ∃ c, c = cmpK x.k y.k := ⟨_, rfl⟩
 have HC : Hid (c = cmpK x.k y.k) := hc
 have hk := cmpk_calls x.k y.k
 rw [← hc] at hk
 clear hx hy g0 x0 x2 y0 y2 hc
 go_enter Try.func53, Try.ntmps53
 by_cases c0 : c = 0
 ·subst c0
  go_wp2_with fail
  go_quiet_grown (refine Calls.grown_of (hk _))
  clear lx ly
  have hg : ∀ m os, grow ((grow (w.drewN nq) osq).drewN m) os = grow (w.drewN (nq + m)) (osq ++ os) := fun m os => by
   show grow (grow ((w.drewN nq).drewN m) osq) os = _
   rw [grow_grow, World.drewN_drewN]
  have la2 : ∀ m os, (grow ((grow (w.drewN nq) osq).drewN m) os).cell? ⟨x.p, 2, none⟩ = some (.int .i64 x.came) := fun m os => by rw [hg]; exact lx2.out _ _
  have lb2 : ∀ m os, (grow ((grow (w.drewN nq) osq).drewN m) os).cell? ⟨y.p, 2, none⟩ = some (.int .i64 y.came) := fun m os => by rw [hg]; exact ly2.out _ _
  have HG := Aside0.mk hg
  clear hg
  go_wp2_with fail
  go_quiet_grown (refine Calls.grown_of (cmpn_calls x.came y.came _))
  go_wp2_with fail
  refine bodyPost_ret (results_tmp rfl _ _ _) rfl ?_
  refine ⟨?_, ?_⟩
  ·rw [HE.out, if_pos HC.out.symm]; rfl
  ·first | exact HB.out _ _ | (rw [HG.out]; exact HB.out _ _)
 ·have hne : (c != 0) = true := by rw [bne_iff_ne]; exact c0
  go_wp2_with fail
  go_quiet_grown (refine Calls.grown_of (hk _))
  clear lx ly
  go_wp2_with fail
  refine bodyPost_ret (results_tmp rfl _ _ _) rfl ?_
  refine ⟨?_, ?_⟩
  ·rw [HE.out, if_neg (fun h => c0 (HC.out.trans h)), ← HC.out]; rfl
  ·first | exact HB.out _ _ | (rw [HG.out]; exact HB.out _ _)
theorem mid_is (i j : Nat) (hi : i ≤ 65536) (hj : j ≤ 65536) : wrap64 (IntKind.u64.wrap (wrap64 ((i : Int) + (j : Int))) / 2) = (((i + j) / 2 : Nat) : Int) := by
 have e1 : wrap64 ((i : Int) + (j : Int)) = ((i + j : Nat) : Int) := by unfold wrap64; omega
 have e2 : IntKind.u64.wrap ((i + j : Nat) : Int) = ((i + j : Nat) : Int) := by
  simp [IntKind.wrap, IntKind.bits, IntKind.signed]
  omega
 rw [e1, e2]
 unfold wrap64
 omega
set_option maxRecDepth 100000 in
set_option maxHeartbeats 4000000 in
theorem search_calls {n0 : Nat} {w : World} {vl : Value} {E : List El} (hown : w.ownsRow n0 89 1 vl E.length (ptrs E)) (hels : ∀ x ∈ E, ElAt w x) (y : El) (hy : ElAt w y) (hlen : E.length ≤ 65536) (hsort : E.Pairwise Ahead) :
  Calls Try.prog 52 #[vl, .pointer (some ⟨y.p, 0, none⟩), .func (.func 53) #[] #[]] w fun e w' => ∃ (k : Nat) (t : Bool), e = .returned (.tuple #[.int .i64 (k : Int), .bool t]) ∧ k ≤ E.length ∧ (∀ j, j < k → Ahead E[j]! y) ∧ (∀ j, k ≤ j → j < E.length → ¬ Ahead E[j]! y) ∧ Below w.heap.size w w' := by
 obtain ⟨va, vc, rfl⟩ := own_form hown
 have HC : Aside0 (∀ wr, Below w.heap.size w wr → ∀ j, j < E.length → ∃ g, va = some ⟨g, 0, none⟩ ∧ wr.cell? ⟨g, j, none⟩ = some (.pointer (some ⟨E[j]!.p, 0, none⟩)) ∧ ElAt wr E[j]!) := by
  refine ⟨fun wr hB j hj => ?_⟩
  obtain ⟨g, cap, e, hg1, hg2⟩ := own_some hown (by omega)
  injection e with e1 _ _
  subst e1
  have hm : E[j]! ∈ E := by rw [getElem!_pos E j hj]; exact List.getElem_mem hj
  have hc := own_cell hown j (.pointer (some ⟨E[j]!.p, 0, none⟩)) (by unfold ptrs; rw [List.getElem?_map, List.getElem?_eq_getElem hj, getElem!_pos E j hj]; rfl)
  refine ⟨g, rfl, ?_, ?_⟩
  ·unfold World.cell? at hc ⊢
   rw [hB.block g hg2]
   exact hc
  ·exact (hB.block _ (hels _ hm).lt).trans (hels _ hm)
 have HY : Aside0 (∀ wr, Below w.heap.size w wr → ElAt wr y) := ⟨fun wr hB => (hB.block _ hy.lt).trans hy⟩
 have HL := Go.Lib.hid hlen
 have HS : Aside0 (∀ i j, i < j → j < E.length → Ahead E[i]! E[j]!) := ⟨fun i j hij hj => by
  rw [getElem!_pos E j hj, getElem!_pos E i (by omega)]
  exact List.pairwise_iff_getElem.1 hsort i j (by omega) hj hij⟩
 clear hown hels hy hlen hsort
 go_enter Try.func52, Try.ntmps52
 go_wp2
 go_loopg [9, 10] (E.length + 1) (fun kx s9 s10 wr => ∃ (i j : Nat), s9 = .int .i64 (i : Int) ∧ s10 = .int .i64 (j : Int) ∧ Hid (i ≤ j ∧ j ≤ E.length ∧ j - i < kx) ∧ Aside0 (∀ k, k < i → Ahead E[k]! y) ∧ Aside0 (∀ k, j ≤ k → k < E.length → ¬ Ahead E[k]! y) ∧ Aside0 (Below w.heap.size w wr))
 case atStart => exact ⟨0, E.length, rfl, rfl, ⟨Nat.zero_le _, Nat.le_refl _, by omega⟩, ⟨fun k hk => by omega⟩, ⟨fun k h1 h2 => by omega⟩, ⟨Below.refl _ _⟩⟩
 case round =>
  obtain ⟨i, j, rfl, rfl, hij, H1, H2, HB⟩ := hrel
  by_cases hlt : i < j
  ·have hb := hij.out
   have hl := HL.out
   obtain ⟨m, hm⟩ : ∃ m, m = (i + j) / 2 := ⟨_, rfl⟩
   have hmid := mid_is i j (by omega) (by omega)
   rw [← hm] at hmid
   have hm1 : i ≤ m ∧ m < j := by omega
   have hml : m < E.length := by omega
   obtain ⟨g, rfl, hcm, hel⟩ := HC.out wr HB.out m hml
   have hcc := cmp_calls E[m]! y wr hel (HY.out wr HB.out)
   obtain ⟨x, ex⟩ : ∃ x, x = E[m]! := ⟨_, rfl⟩
   rw [← ex] at hcm hcc
   have HX := Aside0.mk ex
   obtain ⟨c, ec⟩ : ∃ c, c = cmpE x y := ⟨_, rfl⟩
   rw [← ec] at hcc
   have HCE := Go.Lib.hid ec
   have z1 : decide ((i : Int) < (j : Int)) = true := decide_eq_true (by omega)
   have z3 : 0 ≤ (m : Int) := by omega
   have z4 : (m : Int) < (E.length : Int) := by omega
   have HM := Go.Lib.hid (And.intro hm1 hml)
   by_cases cz : c < 0
   ·have z5 : decide (c < 0) = true := decide_eq_true cz
    have HZ := Go.Lib.hid cz
    clear hb hl hm hm1 hml hel ex ec cz
    go_wp2_with (go_at_call 53; refine hcc.mono ?_; rintro e w2 ⟨rfl, hB2⟩; have HB2 := Aside0.mk (HB.out.trans (hB2.mono HB.out.size)); clear hB2)
    go_roundg (j - i)
    case measure => exact hij.out.2.2
    case rel =>
     have hm := HM.out
     have hl := HL.out
     have hb := hij.out
     have hA : Ahead E[m]! y := cmpE_neg.1 (by rw [← HX.out, ← HCE.out]; exact HZ.out)
     refine ⟨m + 1, j, by (show Value.int .i64 (wrap64 ((m : Int) + 1)) = Value.int .i64 ((m + 1 : Nat) : Int); congr 1; unfold wrap64; omega), rfl, ⟨by omega, hb.2.1, by omega⟩, ⟨fun k hk => ?_⟩, H2, HB2⟩
     by_cases ck : k = m
     ·rw [ck]; exact hA
     ·exact ahead_trans (HS.out k m (by omega) (by omega)) hA
   ·have z5 : decide (c < 0) = false := decide_eq_false cz
    have HZ := Go.Lib.hid cz
    clear hb hl hm hm1 hml hel ex ec cz
    go_wp2_with (go_at_call 53; refine hcc.mono ?_; rintro e w2 ⟨rfl, hB2⟩; have HB2 := Aside0.mk (HB.out.trans (hB2.mono HB.out.size)); clear hB2)
    go_roundg (j - i)
    case measure => exact hij.out.2.2
    case rel =>
     have hm := HM.out
     have hb := hij.out
     have hA : ¬ Ahead E[m]! y := fun h => by have h1 := cmpE_neg.2 h; rw [← HX.out, ← HCE.out] at h1; have := HZ.out; omega
     refine ⟨i, m, rfl, rfl, ⟨by omega, by omega, by omega⟩, H1, ⟨fun k h1 h2 => ?_⟩, HB2⟩
     by_cases ck : k = m
     ·rw [ck]; exact hA
     ·exact fun h => hA (ahead_trans (HS.out m k (by omega) h2) h)
  ·have hij2 := hij.out
   obtain rfl : i = j := by omega
   have z1 : decide ((i : Int) < (i : Int)) = false := decide_eq_false (by omega)
   have HBd := Go.Lib.hid hij2.2.1
   by_cases c : i < E.length
   ·have z2 : decide ((i : Int) < (E.length : Int)) = true := decide_eq_true (by omega)
    obtain ⟨g, rfl, hci, hel⟩ := HC.out wr HB.out i c
    have hcc := cmp_calls E[i]! y wr hel (HY.out wr HB.out)
    have z3 : 0 ≤ (i : Int) := by omega
    have z4 : (i : Int) < (E.length : Int) := by omega
    obtain ⟨x, ex⟩ : ∃ x, x = E[i]! := ⟨_, rfl⟩
    rw [← ex] at hci hcc
    clear ex hij2 hlt c hij hel
    go_wp2_with (go_at_call 53; refine hcc.mono ?_; rintro e w2 ⟨rfl, hB2⟩; have HB2 := Aside0.mk (HB.out.trans (hB2.mono HB.out.size)); clear hB2)
    go_ret2
    exact ⟨i, _, rfl, HBd.out, H1.out, H2.out, HB2.out⟩
   ·have z2 : decide ((i : Int) < (E.length : Int)) = false := decide_eq_false (by omega)
    have z5 : decide (i < E.length) = false := decide_eq_false c
    clear hij2 hlt hij
    go_wp2_with fail
    go_ret2
    exact ⟨i, _, rfl, HBd.out, H1.out, H2.out, HB.out⟩
end Go.Proofs.Ytgolghimefageaa.QT
/- slices.Insert of one pointer among the elements of a queue. -/
namespace Go.Proofs.Ytgolghimefageaa.QT
open Go.Proofs Go.RowKit Go.Shelf Go.Lib Go.Maps Go.Proofs.YtgolghimefageaaW.PrintWords Go.Proofs.YtgolghimefageaaW.PrintLast Go.Proofs.YtgolghimefageaaW.PrintMore Go.Proofs.Ytgolghimefageaa.St
set_option linter.unusedVariables false
theorem infoP : (Try.prog.info? 89).map (fun i => (i.zero, i.size, i.bytes)) = some (some (.pointer none), 1, 8) := by kernel_rfl
section
variable {n0 : Nat} {w : World} {n i vb : Nat} {vl x : Value} {cs : List Value}
set_option maxRecDepth 100000 in
set_option maxHeartbeats 2000000 in
/-- At the end. -/
theorem insert_end (hown : w.ownsRow n0 89 1 vl n cs) (hn0 : n0 ≤ w.heap.size) (hn : n ≤ 65536) (hv : w.heap[vb]? = some (.cells #[x] 89 (0, 0))) (h1 : x.oneCell' = true) :
  Calls Try.prog 54 #[vl, .int .i64 (n : Int), .slice (some ⟨vb, 0, none⟩) 1 1] w fun e w' => ∃ v', e = .returned v' ∧ w'.ownsRow n0 89 1 v' (n + 1) (cs ++ [x]) ∧ w.grownBy w' vl.ownBlock ∧ (v'.ownBlock = vl.ownBlock ∨ ∀ k, v'.ownBlock = some k → w.heap.size ≤ k) := by
 obtain ⟨i0, hi, hz0, hz1, hz2⟩ := info_parts infoP
 obtain ⟨va, vc, rfl⟩ := own_form hown
 have HN := Go.Lib.hid (And.intro hn0 hn)
 have H1 := Aside0.mk h1
 have HO := Aside0.mk hown
 have HW := Aside0.mk (World.news_of_block hv)
 have hvc : n ≤ vc := by
  rcases hown.2 with ⟨e, rfl⟩ | ⟨g, cap, cur, e, _, _, hc, _⟩
  ·omega
  ·injection e with _ _ e; omega
 have hz : (0 : Int) ≤ (n : Int) := by omega
 have hf : ∀ b : Addr, va = some b → b.off = 0 := by
  intro b hb
  rcases hown.2 with ⟨e, rfl⟩ | ⟨g, cap, cur, e, _⟩
  ·injection e with e1; rw [e1] at hb; cases hb
  ·injection e with e1; rw [e1] at hb; cases hb; rfl
 clear hn0 hn h1 hv
 rcases hown.2 with ⟨e, rfl⟩ | ⟨g, cap, cur, e, _, _, _, hcm, _⟩
 ·cases e
  clear hown hf hvc
  go_enter Try.func54, Try.ntmps54
  go_wp2_with (at_builtin; refine wpList_append_lies _ rfl _ _ _ rfl n0 89 i0 _ 1 8 Try.underlying86 hi hz0 hz1 hz2 rfl (by omega) (.slice none 0 0) 0 cs rfl HO.out ⟨vb, 0, none⟩ 1 1 [x] rfl rfl HW.out (by intro u hu; cases List.mem_singleton.1 hu; exact H1.out) (by omega) (by unfold maxLen; omega) (by omega) HN.out.1 w.heap.size rfl ?_; intro gg cap w1 hown1 hgrow hat hlt)
  go_ret
  refine ⟨_, rfl, hown1, hgrow, .inr ?_⟩
  rcases hat with e | e
  ·cases e
  ·intro k hk
   have hk2 : gg = k := by injection hk
   omega
 ·cases e
  have hcm2 : vc ≤ 9223372036854775807 := by unfold maxLen at hcm; exact hcm
  clear hown hf hcm
  go_enter Try.func54, Try.ntmps54
  go_wp2_with (at_builtin; refine wpList_append_lies _ rfl _ _ _ rfl n0 89 i0 _ 1 8 Try.underlying86 hi hz0 hz1 hz2 rfl (by omega) (.slice (some ⟨g, 0, none⟩) n vc) n cs rfl HO.out ⟨vb, 0, none⟩ 1 1 [x] rfl rfl HW.out (by intro u hu; cases List.mem_singleton.1 hu; exact H1.out) (by omega) (by have := HN.out.2; unfold maxLen; omega) (by have := HN.out.2; omega) HN.out.1 w.heap.size rfl ?_; intro gg cap w1 hown1 hgrow hat hlt)
  all_goals
   go_ret
   refine ⟨_, rfl, hown1, hgrow, ?_⟩
   rcases hat with e | e
   ·exact .inl e.symm
   ·refine .inr fun k hk => ?_
    have hk2 : gg = k := by injection hk
    omega
theorem overlaps_no {g la ca lb cb b off voff : Nat} (tA tB : TypeId) (kA kB : Nat) (hvb : g ≠ b) (hsa : w.shape? g = some (tA, kA)) (hsb : w.shape? b = some (tB, kB)) (hkB : kB ≠ 0) (hfa : w.frozen? ⟨g, voff, none⟩ = false) (hfe : w.frozen? ⟨g, kA, none⟩ = false) :
  (callFunc 69 #[.slice (some ⟨g, voff, none⟩) la ca, .slice (some ⟨b, off, none⟩) lb cb]).run Try.prog w = .ok (.value (.bool false)) w := by
 rw [run_callFunc_extern Try.func69 (by kernel_rfl) (by kernel_rfl) (by kernel_rfl) (e := Extern.SlicesOverlaps.overlaps #[86, 86] #[4]) (by kernel_rfl),
  Lib.run_overlaps_apart w 86 4 89 Try.underlying86 1 (fun w => by kernel_rfl) ⟨g, voff, none⟩ ⟨b, off, none⟩ la ca lb cb hvb tA tB kA kB hsa hsb hkB hfa hfe]
 rfl
set_option maxRecDepth 100000 in
set_option maxHeartbeats 4000000 in
/-- Ahead of the end, where there is room. -/
theorem insert_shift {g cap : Nat} (hown : w.ownsRow n0 89 1 (.slice (some ⟨g, 0, none⟩) n cap) n cs) (hi : i < n) (hroom : n + 1 ≤ cap) (hvb : vb ≠ g) (hv : w.heap[vb]? = some (.cells #[x] 89 (0, 0))) (h1 : x.oneCell' = true) (h1c : ∀ v ∈ cs, v.oneCell' = true) :
  Calls Try.prog 54 #[.slice (some ⟨g, 0, none⟩) n cap, .int .i64 (i : Int), .slice (some ⟨vb, 0, none⟩) 1 1] w fun e w' => e = .returned (.slice (some ⟨g, 0, none⟩) (n + 1) cap) ∧ w'.ownsRow n0 89 1 (.slice (some ⟨g, 0, none⟩) (n + 1) cap) (n + 1) (cs.take i ++ x :: cs.drop i) ∧ w.grownBy w' (some g) := by
 have hl : cs.length = n := by have := hown.1; omega
 obtain ⟨cur, hh, hs, hm⟩ := own_there hown
 have hc63 : cap ≤ 9223372036854775807 := by unfold maxLen at hm; exact hm
 have mixed : Try.prog.follows .mixedOrders = true := by kernel_rfl
 have hsz : (Try.prog.info? 89).map (·.size) = some 1 := by kernel_rfl
 have hsome : ∀ j, j < n + 1 → (w.cell? ⟨g, j, none⟩).isSome = true := fun j hj => by
  rw [cell_of_row w g j cur _ (0, 0) hh, Array.getElem?_eq_getElem (by omega)]
  rfl
 have hvs : ∀ j v, [x][j]? = some v → w.cell? ⟨vb, 0 + j, none⟩ = some v := fun j v hj => by
  rw [Nat.zero_add, cell_of_row w vb j _ _ (0, 0) hv]
  match j, hj with
  | 0, hj => exact hj
 have hov : ∀ la ca lb cb, (callFunc 69 #[.slice (some ⟨vb, 0, none⟩) la ca, .slice (some ⟨g, i + 1, none⟩) lb cb]).run Try.prog w = .ok (.value (.bool false)) w := fun la ca lb cb =>
  overlaps_no 89 89 1 cap hvb (by unfold World.shape?; rw [hv]; rfl) (by unfold World.shape?; rw [hh]; show some (_, cur.size) = _; rw [hs]) (by omega) (by unfold World.frozen?; rw [hv]; simp) (by unfold World.frozen?; rw [hv]; simp)
 have hfz : ∀ j, w.frozen? ⟨g, j, none⟩ = false := own_frozen hown
 have hcell : ∀ j v, cs[j]? = some v → w.cell? ⟨g, j, none⟩ = some v := fun j v hj => own_cell hown j v hj
 have hdl : (cs.drop i).length = n - i := by rw [List.length_drop, hl]
 obtain ⟨W1, hW1⟩ : ∃ W1, W1 = w.drew.setCells g (i + 1) (cs.drop i) := ⟨_, rfl⟩
 have hcp1 : ∀ ty dc sc, (Builtin.copy_ #[86, 86] ty #[.slice (some ⟨g, i + 1, none⟩) (n - i) dc, .slice (some ⟨g, i, none⟩) (n + 1 - i) sc]).run Try.prog w.drew = .ok (goInt (cs.drop i).length) W1 := fun ty dc sc => by
  rw [hW1]
  exact run_copy_cells w.drew _ _ ty 89 g (i + 1) (n - i) dc ⟨g, i, none⟩ (n + 1 - i) sc (cs.drop i) Try.underlying86 hsz (by rw [hdl]; simp only [Nat.min_def]; split <;> omega)
   (fun j v hj => by rw [Addr.add_lit]; exact hcell (i + j) v (by rwa [List.getElem?_drop] at hj))
   (fun j hj => hsome _ (by omega)) (fun j hj => hfz _) (fun v hv => h1c v (List.mem_of_mem_drop hv))
 have hsp1 : ∀ k, k < n + 1 → (W1.cell? ⟨g, k, none⟩).isSome = true := fun k hk => by
  rw [hW1]
  exact isSome_setCells g (cs.drop i) (i + 1) w.drew (fun j hj => hsome _ (by rw [hdl] at hj; omega)) _ (hsome k hk)
 have hcp2 : ∀ (W : World), (∀ x, W.cell? x = W1.cell? x) → (∀ x, W.frozen? x = W1.frozen? x) → ∀ ty dc, (Builtin.copy_ #[86, 86] ty #[.slice (some ⟨g, i, none⟩) (n + 1 - i) dc, .slice (some ⟨vb, 0, none⟩) 1 1]).run Try.prog W = .ok (goInt [x].length) (W.setCells g i [x]) := fun W hWc hWf ty dc =>
  run_copy_cells W _ _ ty 89 g i (n + 1 - i) dc ⟨vb, 0, none⟩ 1 1 [x] Try.underlying86 hsz (by simp only [Nat.min_def]; split <;> (simp; try omega))
   (fun j v hj => by
    rw [Addr.add_lit, hWc, hW1, World.cell?_setCells_out g _ _ _ _ (fun h _ => absurd h hvb)]
    exact hvs j v hj)
   (fun j hj => by rw [hWc]; exact hsp1 _ (by simp at hj; omega)) (fun j hj => by rw [hWf, hW1, World.frozen?_setCells]; exact hfz _) (by intro u hu; cases List.mem_singleton.1 hu; exact h1)
 have hfin := put_in (i := i) x hown (by omega) hroom w.drew rfl rfl rfl rfl
 rw [Nat.zero_add, Nat.zero_add, ← hW1] at hfin
 have HFIN := Aside0.mk hfin
 have hz2 : ¬ ((i : Int) = (n : Int)) := by omega
 have hz2' : ¬ (i = n) := by omega
 have hz3 : ¬ ((cap : Int) < (n : Int) + 1) := by omega
 have hz3' : ¬ (cap < n + 1) := by omega
 have hb1 : (0 : Int) ≤ (i : Int) + 1 := by omega
 have hb1' : (0 : Int) ≤ (n : Int) + 1 := by omega
 have hb1'' : (n : Int) + 1 ≤ (cap : Int) := by omega
 have hin : i ≤ n := by omega
 have htn : ((i : Int) + 1).toNat = i + 1 := by omega
 have htn' : ((n : Int) + 1).toNat = n + 1 := by omega
 have hb2 : ¬ (cap = i + 1) := by omega
 have hb3 : (i : Int) ≤ (n : Int) + 1 := by omega
 have hb3' : (i : Int) + 1 ≤ (n : Int) + 1 := by omega
 have hb4 : ¬ (cap = i) := by omega
 have hw1 : IntKind.i64.wrap ((i : Int) + 1) = (i : Int) + 1 := by rw [IntKind.wrap_i64]; omega
 have hw1' : wrap64 ((i : Int) + 1) = (i : Int) + 1 := by clear hw1; unfold wrap64; omega
 have hw2' : wrap64 ((n : Int) + 1) = (n : Int) + 1 := by clear hw1 hw1'; unfold wrap64; omega
 clear hfin hsp1 hdl hcell hfz hvs hsome hsz hh hs hm hl hown hv h1 h1c hvb hroom hi
 go_enter Try.func54, Try.ntmps54
 go_wp2_with (simp only [hov])
 go_region_law_o (refine step_copy_runI rfl _ _ 86 86 rfl _ _ (by simp [Act.eval, Act.put]) (by simp [Act.eval, Act.put]) (hcp1 _ _ _) ?_)
 go_wp2_with (at_builtin; refine wpList_copy_runI _ rfl _ _ 86 86 rfl _ _ rfl rfl (hcp2 _ (fun _ => rfl) (fun _ => rfl) _ _) ?_)
 go_ret
 have hfin := HFIN.out
 rw [hW1] at hfin
 exact ⟨rfl, hfin.1, hfin.2⟩
theorem zeros_one (k : Nat) : Builtin.zeroCells (Value.pointer none).cells k = Array.replicate k (.pointer none) := by
 apply Array.ext
 ·simp [Builtin.zeroCells, Value.cells]
 ·intro j h1 h2
  simp [Builtin.zeroCells, Value.cells, Nat.mod_one]
set_option maxRecDepth 100000 in
set_option maxHeartbeats 4000000 in
/-- Ahead of the end, where there is no room: a new row. -/
theorem insert_grow {g cap : Nat} (hown : w.ownsRow n0 89 1 (.slice (some ⟨g, 0, none⟩) n cap) n cs) (hn0 : n0 ≤ w.heap.size) (hi : i < n) (hn : n ≤ 65536) (hroom : cap < n + 1) (hvb : vb ≠ g) (hv : w.heap[vb]? = some (.cells #[x] 89 (0, 0))) (h1 : x.oneCell' = true) (h1c : ∀ v ∈ cs, v.oneCell' = true) :
  Calls Try.prog 54 #[.slice (some ⟨g, 0, none⟩) n cap, .int .i64 (i : Int), .slice (some ⟨vb, 0, none⟩) 1 1] w fun e w' => ∃ v', e = .returned v' ∧ w'.ownsRow n0 89 1 v' (n + 1) (cs.take i ++ x :: cs.drop i) ∧ w.grownBy w' none ∧ (∀ k, v'.ownBlock = some k → w.heap.size ≤ k) := by
 have hl : cs.length = n := by have := hown.1; omega
 obtain ⟨cur, hh, hs, hm⟩ := own_there hown
 obtain ⟨i0, hi0, hz0, hzs, hzb⟩ := info_parts infoP
 have hcap := St.own_cap hown
 obtain rfl : cap = n := by omega
 have mixed : Try.prog.follows .mixedOrders = true := by kernel_rfl
 have hsz : (Try.prog.info? 89).map (·.size) = some 1 := by kernel_rfl
 have hcell : ∀ j v, cs[j]? = some v → w.cell? ⟨g, j, none⟩ = some v := fun j v hj => own_cell hown j v hj
 have hbw : g < w.heap.size := (Array.getElem?_eq_some_iff.1 hh).1
 have hvw : vb < w.heap.size := (Array.getElem?_eq_some_iff.1 hv).1
 have hvs : ∀ j v, [x][j]? = some v → w.cell? ⟨vb, 0 + j, none⟩ = some v := fun j v hj => by
  rw [Nat.zero_add, cell_of_row w vb j _ _ (0, 0) hv]
  match j, hj with
  | 0, hj => exact hj
 have hold : (Builtin.firstCells i0.size i (.slice (some ⟨g, 0, none⟩) i cap)).run Try.prog w.drew = .ok (cs.take i).toArray w.drew := by
  rw [hzs]
  exact run_firstCells_some w.drew 1 i ⟨g, 0, none⟩ i cap (cs.take i) (by rw [List.length_take]; omega) (fun j v hj => by
   rw [Addr.add_lit, Nat.zero_add]
   rw [List.getElem?_take] at hj
   split at hj
   ·exact hcell j v hj
   ·cases hj)
 have hik : i + (cap + 1 - i) = cap + 1 := by omega
 have hrz0 := fun ty => Lib.run_append_grow_zeros w 86 3 ty 89 i0 _ .i64 .i64 Try.underlying86 Try.underlying3 hi0 hz0 (some ⟨g, 0, none⟩) i cap (cs.take i) hold (cap + 1 - i) (by omega) (by omega) (by omega) (by omega) (by rw [hzb]; omega) (by rw [hzb, hik]; exact growslice_fits hroom (by omega))
 obtain ⟨G, hG⟩ : ∃ G, G = grownCap w (cap + 1) cap 89 := ⟨_, rfl⟩
 obtain ⟨ROW, hROW⟩ : ∃ ROW : Array Value, ROW = (cs.take i).toArray ++ Builtin.zeroCells (Value.pointer none).cells (cap + 1 - i) ++ Builtin.zeroCells (Value.pointer none).cells (G - (cap + 1)) := ⟨_, rfl⟩
 have hGn : cap + 1 ≤ G := by rw [hG]; exact grownCap_ge w _ _ _
 have hGM : G ≤ maxLen := by
  have := grownCap_le_maxLen w (cap + 1) cap 89 (by unfold maxLen; omega)
  rw [← hG] at this
  exact this
 have hG63 : G ≤ 9223372036854775807 := by unfold maxLen at hGM; exact hGM
 have hROWs : ROW.size = G := by
  rw [hROW, zeros_one, zeros_one, Array.size_append, Array.size_append, Array.size_replicate, Array.size_replicate, List.size_toArray, List.length_take, hl]
  omega
 have hrz : ∀ ty, (Builtin.append_ #[86, 3] ty #[.slice (some ⟨g, 0, none⟩) i cap, .int .i64 ((cap : Int) + 1 - (i : Int))]).run Try.prog w = .ok (.slice (some ⟨w.heap.size, 0, none⟩) (cap + 1) G) (w.drew.alloc (.cells ROW 89)) := fun ty => by
  have h := hrz0 ty
  rw [hik, ← hG, ← hROW] at h
  rw [show (cap : Int) + 1 - (i : Int) = ((cap + 1 - i : Nat) : Int) by omega]
  exact h
 obtain ⟨B, hB⟩ : ∃ B, B = w.heap.size := ⟨_, rfl⟩
 obtain ⟨W1, hW1⟩ : ∃ W1, W1 = w.drew.alloc (.cells ROW 89) := ⟨_, rfl⟩
 have hW1B : W1.heap[B]? = some (.cells ROW 89 (0, 0)) := by rw [hW1, hB]; exact heap_alloc_new w.drew _
 rw [← hW1, ← hB] at hrz
 clear hrz0
 have hN : ∀ j, j < cap + 1 → (W1.cell? ⟨B, j, none⟩).isSome = true := fun j hj => by
  rw [cell_of_row W1 B j ROW _ (0, 0) hW1B, Array.getElem?_eq_getElem (by omega)]; rfl
 have hNf : ∀ j, W1.frozen? ⟨B, j, none⟩ = false := fun j => by unfold World.frozen?; rw [hW1B]; simp
 have hOb : ∀ b j v, b < w.heap.size → w.cell? ⟨b, j, none⟩ = some v → W1.cell? ⟨b, j, none⟩ = some v := fun b j v hlt h => by
  rw [hW1]
  exact Lib.cell?_alloc_some (W := w.drew) _ h
 have hcpA : ∀ (W : World), (∀ x, W.cell? x = W1.cell? x) → (∀ x, W.frozen? x = W1.frozen? x) → ∀ ty dc, (Builtin.copy_ #[86, 86] ty #[.slice (some ⟨B, i, none⟩) (cap + 1 - i) dc, .slice (some ⟨vb, 0, none⟩) 1 1]).run Try.prog W = .ok (goInt [x].length) (W.setCells B i [x]) := fun W hWc hWf ty dc =>
  run_copy_cells W _ _ ty 89 B i (cap + 1 - i) dc ⟨vb, 0, none⟩ 1 1 [x] Try.underlying86 hsz (by simp only [Nat.min_def]; split <;> (simp; try omega))
   (fun j v hj => by rw [Addr.add_lit, hWc]; exact hOb _ _ v hvw (hvs j v hj))
   (fun j hj => by rw [hWc]; exact hN _ (by simp at hj; omega)) (fun j hj => by rw [hWf]; exact hNf _) (by intro u hu; cases List.mem_singleton.1 hu; exact h1)
 have hdl : (cs.drop i).length = cap - i := by rw [List.length_drop, hl]
 have hbN : g ≠ B := by omega
 have hcpB : ∀ (W : World), (∀ y, W.cell? y = (W1.setCells B i [x]).cell? y) → (∀ y, W.frozen? y = (W1.setCells B i [x]).frozen? y) → ∀ ty dc sc, (Builtin.copy_ #[86, 86] ty #[.slice (some ⟨B, i + 1, none⟩) (cap - i) dc, .slice (some ⟨g, i, none⟩) (cap - i) sc]).run Try.prog W = .ok (goInt (cs.drop i).length) (W.setCells B (i + 1) (cs.drop i)) := fun W hWc hWf ty dc sc =>
  run_copy_cells W _ _ ty 89 B (i + 1) (cap - i) dc ⟨g, i, none⟩ (cap - i) sc (cs.drop i) Try.underlying86 hsz (by rw [hdl]; simp only [Nat.min_def]; split <;> omega)
   (fun j v hj => by
    rw [Addr.add_lit, hWc, World.cell?_setCells_out _ _ _ _ _ (fun h _ => absurd h hbN)]
    exact hOb _ _ v hbw (hcell (i + j) v (by rwa [List.getElem?_drop] at hj)))
   (fun j hj => by rw [hWc]; exact isSome_setCells B [x] i W1 (fun t ht => hN _ (by simp at ht; omega)) _ (hN _ (by rw [hdl] at hj; omega)))
   (fun j hj => by rw [hWf, World.frozen?_setCells]; exact hNf _) (fun v hv => h1c v (List.mem_of_mem_drop hv))
 have hfin : ((W1.setCells B i [x]).drew.setCells B (i + 1) (cs.drop i)).ownsRow n0 89 1 (.slice (some ⟨B, 0, none⟩) (cap + 1) G) (cap + 1) (cs.take i ++ x :: cs.drop i) ∧ w.grownBy ((W1.setCells B i [x]).drew.setCells B (i + 1) (cs.drop i)) none := by
  constructor
  ·refine ⟨by rw [List.length_append, List.length_cons, List.length_take, List.length_drop]; omega, .inr ⟨B, G, _, rfl, by omega, setCells_here (cs.drop i) (i + 1) _ (W1.setCells B i [x]).drew (setCells_here [x] i ROW W1 hW1B), hGn, hGM, by rw [setAll_size, setAll_size, hROWs, Nat.mul_one], ?_⟩⟩
   rw [setAll_list _ _ _ (by rw [setAll_size, hROWs, hdl]; omega), setAll_list _ _ _ (by rw [hROWs, List.length_singleton]; omega), List.length_singleton, hdl, Nat.mul_one]
   have hRl : ROW.toList.length = G := by rw [Array.length_toList, hROWs]
   have ht1 : ROW.toList.take i = cs.take i := by
    rw [hROW, Array.toList_append, Array.toList_append, List.append_assoc, List.take_append_of_le_length (by simp; omega)]
    simp only [List.take_take, Nat.min_self]
   have e1 : (ROW.toList.take i ++ [x] ++ ROW.toList.drop (i + 1)).take (i + 1) = cs.take i ++ [x] := by
    rw [ht1]
    exact List.take_left' (by rw [List.length_append, List.length_take, List.length_singleton, hl]; omega)
   rw [e1]
   exact List.take_left' (by rw [List.length_append, List.length_append, List.length_take, List.length_singleton, hl, hdl]; omega) |>.trans (by rw [List.append_assoc]; rfl)
  ·have g1 : w.grownBy W1 none := by
    have g := World.grownBy_alloc w.drew (.cells ROW 89) none
    rw [← hW1] at g
    exact ⟨g.os, g.tape, g.output, g.size, g.block⟩
   have h2 := setCells_grown (g := B) [x] i W1
   have h3 := setCells_grown (g := B) (cs.drop i) (i + 1) (W1.setCells B i [x]).drew
   refine ⟨h3.os.trans (h2.os.trans g1.os), h3.tape.trans (h2.tape.trans g1.tape), h3.output.trans (h2.output.trans g1.output), Nat.le_trans g1.size (Nat.le_trans h2.size h3.size), fun k hk _ => ?_⟩
   have hkB : some k ≠ some B := fun e => by injection e with e; omega
   exact (h3.block k (Nat.lt_of_lt_of_le hk (Nat.le_trans g1.size h2.size)) hkB).trans ((h2.block k (Nat.lt_of_lt_of_le hk g1.size) hkB).trans (g1.block k hk (fun e => by cases e)))
 have HFIN := Aside0.mk hfin
 have HBB := Go.Lib.hid hB
 have HW1 := Aside0.mk hW1
 have hz2 : ¬ ((i : Int) = (cap : Int)) := by omega
 have hz2' : ¬ (i = cap) := by omega
 have hb1 : (0 : Int) ≤ (i : Int) + 1 := by omega
 have hin : i ≤ cap := by omega
 have htn : ((i : Int) + 1).toNat = i + 1 := by omega
 have hb3 : (i : Int) ≤ (cap : Int) + 1 := by omega
 have hb3' : (i : Int) + 1 ≤ (cap : Int) + 1 := by omega
 have hb4 : ¬ (cap = i) := by omega
 have hGi : ¬ (G = i) := by omega
 have hGim : ¬ (G = i + 1) := by omega
 have hw1 : IntKind.i64.wrap ((i : Int) + 1) = (i : Int) + 1 := by rw [IntKind.wrap_i64]; omega
 have hw1' : wrap64 ((i : Int) + 1) = (i : Int) + 1 := by clear hw1; unfold wrap64; omega
 have hw2' : wrap64 ((cap : Int) + 1) = (cap : Int) + 1 := by clear hw1 hw1'; unfold wrap64; omega
 have hF1 : ∀ y, (W1.setCells B i [x]).drew.cell? y = (W1.setCells B i [x]).cell? y := fun y => rfl
 have hF2 : ∀ y, (W1.setCells B i [x]).drew.frozen? y = (W1.setCells B i [x]).frozen? y := fun y => rfl
 clear hfin hN hNf hOb hdl hbN hROWs hGM hcell hvs hsz hh hs hm hl hown hv h1 h1c hvb hroom hi hold hik hG hROW hbw hvw hcap hn hn0 hW1B hB hW1 hi0 hz0 hzs hzb
 go_enter Try.func54, Try.ntmps54
 go_wp2_with (first
  | (at_builtin; refine Lib.wpList_append_run _ rfl _ _ _ _ rfl _ _ rfl rfl _ _ (hrz _) ?_)
  | (at_builtin; refine wpList_copy_runI _ rfl _ _ 86 86 rfl _ _ rfl rfl (hcpA _ (fun _ => rfl) (fun _ => rfl) _ _) ?_))
 go_region_law_o (refine step_copy_runI rfl _ _ 86 86 rfl _ _ (by simp [Act.eval, Act.put]) (by simp [Act.eval, Act.put]) (hcpB _ hF1 hF2 _ _ _) ?_)
 go_wp2
 go_ret
 exact ⟨_, rfl, HFIN.out.1, HFIN.out.2, fun k hk => by have hk2 : B = k := (by injection hk); have := HBB.out; omega⟩
/-- slices.Insert of one pointer. -/
theorem insert_calls (hown : w.ownsRow n0 89 1 vl n cs) (hn0 : n0 ≤ w.heap.size) (hi : i ≤ n) (hn : n ≤ 65536) (hvb : vl.ownBlock ≠ some vb) (hv : w.heap[vb]? = some (.cells #[x] 89 (0, 0))) (h1 : x.oneCell' = true) (h1c : ∀ v ∈ cs, v.oneCell' = true) :
  Calls Try.prog 54 #[vl, .int .i64 (i : Int), .slice (some ⟨vb, 0, none⟩) 1 1] w fun e w' => ∃ v', e = .returned v' ∧ w'.ownsRow n0 89 1 v' (n + 1) (cs.take i ++ x :: cs.drop i) ∧ w.grownBy w' vl.ownBlock ∧ (v'.ownBlock = vl.ownBlock ∨ ∀ k, v'.ownBlock = some k → w.heap.size ≤ k) := by
 have hl : cs.length = n := by have := hown.1; omega
 by_cases c : i = n
 ·subst c
  have h := insert_end hown hn0 hn hv h1
  rw [← hl] at h ⊢
  rw [List.take_length, List.drop_length]
  exact h
 ·obtain ⟨g, cap, rfl, _, _⟩ := own_some hown (by omega)
  have hne : vb ≠ g := fun e => hvb (by rw [e]; rfl)
  by_cases c2 : n + 1 ≤ cap
  ·refine (insert_shift hown (by omega) c2 hne hv h1 h1c).mono ?_
   rintro e w' ⟨rfl, p1, p2⟩
   exact ⟨_, rfl, p1, p2, .inl rfl⟩
  ·refine (insert_grow hown hn0 (by omega) hn (by omega) hne hv h1 h1c).mono ?_
   rintro e w' ⟨v', rfl, p1, p2, p3⟩
   exact ⟨_, rfl, p1, ⟨p2.os, p2.tape, p2.output, p2.size, fun k hk _ => p2.block k hk (fun e => by cases e)⟩, .inr p3⟩
end
end Go.Proofs.Ytgolghimefageaa.QT
/- A queue: place, Put. -/
namespace Go.Proofs.Ytgolghimefageaa.QT
open Go.Proofs Go.RowKit Go.Shelf Go.Lib Go.Maps Go.Proofs.YtgolghimefageaaW.PrintWords Go.Proofs.YtgolghimefageaaW.PrintLast Go.Proofs.YtgolghimefageaaW.PrintMore Go.Proofs.Ytgolghimefageaa.St
instance (x y : El) : Decidable (Ahead x y) := by unfold Ahead; infer_instance
/-- y among E, behind all that are ahead of it. -/
def ins : List El → El → List El
 | [], y => [y]
 | x :: r, y => if Ahead x y then x :: ins r y else y :: x :: r
theorem ins_eq (y : El) : ∀ (E : List El) (k : Nat), k ≤ E.length → (∀ j, j < k → Ahead E[j]! y) → (∀ j, k ≤ j → j < E.length → ¬ Ahead E[j]! y) → E.take k ++ y :: E.drop k = ins E y
 | [], k, hk, _, _ => by
  obtain rfl : k = 0 := by simpa using hk
  rfl
 | x :: r, 0, _, _, h2 => by
  have := h2 0 (Nat.le_refl _) (by simp)
  unfold ins
  rw [if_neg (by simpa using this)]
  rfl
 | x :: r, k + 1, hk, h1, h2 => by
  have h0 := h1 0 (by omega)
  unfold ins
  rw [if_pos (by simpa using h0), ← ins_eq y r k (by simpa using hk) (fun j hj => by simpa using h1 (j + 1) (by omega)) (fun j h3 h4 => by simpa using h2 (j + 1) (by omega) (by simpa using h4))]
  rfl
theorem ins_perm (y : El) : ∀ E : List El, (ins E y).Perm (y :: E)
 | [] => List.Perm.refl _
 | x :: r => by
  unfold ins
  split
  ·exact ((ins_perm y r).cons x).trans (List.Perm.swap y x r)
  ·exact List.Perm.refl _
theorem ins_len (E : List El) (y : El) : (ins E y).length = E.length + 1 := by rw [(ins_perm y E).length_eq, List.length_cons]
theorem ahead_total {x y : El} (h : ¬ Ahead x y) (hc : x.came ≠ y.came) : Ahead y x := by
 unfold Ahead at *
 rcases klt_total x.k y.k with h1 | h1 | h1
 ·exact absurd (.inl h1) h
 ·refine .inr ⟨h1.symm, ?_⟩
  have : ¬ x.came < y.came := fun h2 => h (.inr ⟨h1, h2⟩)
  omega
 ·exact .inl h1
theorem ins_sorted (y : El) : ∀ E : List El, E.Pairwise Ahead → (∀ x ∈ E, x.came ≠ y.came) → (ins E y).Pairwise Ahead
 | [], _, _ => List.pairwise_singleton _ _
 | x :: r, h, hc => by
  rw [List.pairwise_cons] at h
  unfold ins
  split
  ·rename_i ha
   rw [List.pairwise_cons]
   refine ⟨fun z hz => ?_, ins_sorted y r h.2 (fun z hz => hc z (List.mem_cons_of_mem _ hz))⟩
   rcases List.mem_cons.1 ((ins_perm y r).mem_iff.1 hz) with rfl | hz
   ·exact ha
   ·exact h.1 z hz
  ·rename_i ha
   have hyx := ahead_total ha (hc x List.mem_cons_self)
   rw [List.pairwise_cons, List.pairwise_cons]
   refine ⟨fun z hz => ?_, h.1, h.2⟩
   rcases List.mem_cons.1 hz with rfl | hz
   ·exact hyx
   ·exact ahead_trans hyx (h.1 z hz)
/-- An element that has come. -/
def El.at (y : El) (c : Int) : El := { y with came := c }
theorem good_ins {E : List El} {y : El} {came next : Int} (h : Good E came next) (h1 : y.p ∉ E.map El.p) (h2 : y.ticket ∉ E.map El.ticket) (h3 : 0 ≤ y.ticket ∧ y.ticket < next) (h4 : 0 ≤ came) : Good (ins E (y.at came)) (came + 1) next := by
 have hp := ins_perm (y.at came) E
 refine ⟨(hp.map El.p).nodup_iff.2 (List.nodup_cons.2 ⟨h1, h.nodup⟩), (hp.map El.ticket).nodup_iff.2 (List.nodup_cons.2 ⟨h2, h.tick⟩), fun x hx => ?_, ins_sorted _ E h.sorted (fun x hx => ?_)⟩
 ·rcases List.mem_cons.1 (hp.mem_iff.1 hx) with rfl | hx
  ·exact ⟨h3.1, h3.2, h4, by show came < came + 1; omega⟩
  ·have := h.range x hx
   exact ⟨this.1, this.2.1, this.2.2.1, by omega⟩
 ·have := (h.range x hx).2.2.2
  show x.came ≠ came
  omega
theorem any_perm {E E' : List El} (h : E.Perm E') (f : El → Bool) : E.any f = E'.any f := by
 rw [Bool.eq_iff_iff, List.any_eq_true, List.any_eq_true]
 exact ⟨fun ⟨x, hx, hf⟩ => ⟨x, h.mem_iff.1 hx, hf⟩, fun ⟨x, hx, hf⟩ => ⟨x, h.mem_iff.2 hx, hf⟩⟩
theorem MapOf.perm {D : DataW Unit} {E E' : List El} (h : MapOf D E) (hp : E.Perm E') : MapOf D E' := ⟨fun t => by rw [h.has, any_perm hp], fun x hx z => h.at_ x (hp.mem_iff.2 hx) z⟩
theorem MapOf.came {D : DataW Unit} {E : List El} {y : El} (h : MapOf D (y :: E)) (c : Int) : MapOf D (y.at c :: E) := ⟨fun t => by rw [h.has]; rfl, fun x hx z => by
 rcases List.mem_cons.1 hx with rfl | hx
 ·exact h.at_ y List.mem_cons_self z
 ·exact h.at_ x (List.mem_cons_of_mem _ hx) z⟩
theorem MapOf.key {D : DataW Unit} {E : List El} {y : El} (h : MapOf D (y :: E)) (k : Int) : MapOf D ({ y with k := k } :: E) := ⟨fun t => by rw [h.has]; rfl, fun x hx z => by
 rcases List.mem_cons.1 hx with rfl | hx
 ·exact h.at_ y List.mem_cons_self z
 ·exact h.at_ x (List.mem_cons_of_mem _ hx) z⟩
/-- A queue that has an element y beside its order: the map of tickets tells of it. -/
structure QMid (n0 : Nat) (w : World) (P : Nat → Prop) (b : Nat) (vl : Value) (mb nm : Nat) (E : List El) (y : El) (most came next : Int) : Prop where
 hP : ∀ k, P k → n0 ≤ k
 pb : P b
 pm : P mb
 pl : ∀ k, vl.ownBlock = some k → P k
 pe : ∀ x ∈ E, P x.p
 py : P y.p
 blk : w.heap[b]? = some (.cells #[.int .i64 most, .int .i64 came, .int .i64 next, vl, .map (some mb)] 88 (0, 0))
 row : w.ownsRow n0 89 1 vl E.length (ptrs E)
 els : ∀ x ∈ E, ElAt w x
 ely : ElAt w y
 map : ∃ D : DataW Unit, w.ownsMap Try.prog 3 ptrR mb nm D ∧ MapOf D (y :: E)
 good : Good E came next
 fp : y.p ∉ E.map El.p
 ft : y.ticket ∉ E.map El.ticket
 rng : 0 ≤ y.ticket ∧ y.ticket < next
theorem cells_other {w : World} {k : Nat} {o : Obj} (h : w.heap[k]? = some o) (b j : Nat) (u : Value) (hne : k ≠ b) : (w.setCell ⟨b, j, none⟩ u).heap[k]? = some o := by
 rw [Below.heap_setCell w ⟨b, j, none⟩ _ k hne]
 exact h
theorem cells_set {w : World} {b : Nat} {cs : Array Value} {t : TypeId} (h : w.heap[b]? = some (.cells cs t (0, 0))) (j : Nat) (u : Value) : (w.setCell ⟨b, j, none⟩ u).heap[b]? = some (.cells (cs.setIfInBounds j u) t (0, 0)) := by
 unfold World.setCell
 simp only [Array.getElem?_modify, if_true, h, Option.map_some]
 rfl
section
variable {n0 : Nat} {w : World} {P : Nat → Prop} {b : Nat} {vl : Value} {mb nm : Nat} {E : List El} {y : El} {most came next : Int}
theorem QMid.lt (h : QMid n0 w P b vl mb nm E y most came next) : b < w.heap.size := (Array.getElem?_eq_some_iff.1 h.blk).1
theorem QMid.apart (h : QMid n0 w P b vl mb nm E y most came next) : b ≠ mb ∧ vl.ownBlock ≠ some b ∧ vl.ownBlock ≠ some mb ∧ y.p ≠ b ∧ y.p ≠ mb ∧ vl.ownBlock ≠ some y.p ∧ (∀ x ∈ E, x.p ≠ b ∧ x.p ≠ mb ∧ vl.ownBlock ≠ some x.p ∧ x.p ≠ y.p) := by
 obtain ⟨D, ⟨es, clock, hm, _⟩, _⟩ := h.map
 have hel : ∀ x, ElAt w x → x.p ≠ b ∧ x.p ≠ mb ∧ vl.ownBlock ≠ some x.p := by
  intro x hx
  refine ⟨fun e => ?_, fun e => ?_, fun e => ?_⟩
  ·have hb := h.blk
   rw [← e, hx] at hb
   injection hb with hb
   injection hb with _ hb _
   revert hb; decide
  ·unfold ElAt at hx
   rw [e, hm] at hx
   cases hx
  ·obtain ⟨c, hc⟩ := own_typed h.row _ e
   unfold ElAt at hx
   rw [hx] at hc
   injection hc with hc
   injection hc with _ hc _
   revert hc; decide
 refine ⟨fun e => ?_, fun e => ?_, fun e => ?_, (hel y h.ely).1, (hel y h.ely).2.1, (hel y h.ely).2.2, fun x hx => ⟨(hel x (h.els x hx)).1, (hel x (h.els x hx)).2.1, (hel x (h.els x hx)).2.2, fun e => h.fp (List.mem_map.2 ⟨x, hx, e⟩)⟩⟩
 ·have hb := h.blk
  rw [e, hm] at hb
  cases hb
 ·obtain ⟨c, hc⟩ := own_typed h.row _ e
  rw [h.blk] at hc
  injection hc with hc
  injection hc with _ hc _
  revert hc; decide
 ·obtain ⟨c, hc⟩ := own_typed h.row _ e
  rw [hm] at hc
  cases hc
theorem QMid.kept {w' : World} {S : Nat → Prop} (h : QMid n0 w P b vl mb nm E y most came next) (hk : Kept w w' S) (hS : ∀ k, P k → ¬ S k) : QMid n0 w' P b vl mb nm E y most came next := by
 obtain ⟨D, hm, hD⟩ := h.map
 exact ⟨h.hP, h.pb, h.pm, h.pl, h.pe, h.py, blk_kept h.blk hk (hS _ h.pb), own_move h.row (fun k e => hk.2 k (h.row.lt k e).2 (hS k (h.pl k e))),
  fun x hx => blk_kept (h.els x hx) hk (hS _ (h.pe x hx)), blk_kept h.ely hk (hS _ h.py), ⟨D, own_same hm (hk.2 mb hm.lt (hS _ h.pm)), hD⟩, h.good, h.fp, h.ft, h.rng⟩
theorem QMid.below {w' : World} (h : QMid n0 w P b vl mb nm E y most came next) (hB : Below w.heap.size w w') : QMid n0 w' P b vl mb nm E y most came next := h.kept (Kept.of_below hB (fun _ => False)) (fun _ _ h => h)
/-- The element's came is written, and the queue's. -/
theorem QMid.comes (h : QMid n0 w P b vl mb nm E y most came next) (c : Int) (hc : came ≤ c) : QMid n0 ((w.setCell ⟨y.p, 2, none⟩ (.int .i64 came)).setCell ⟨b, 1, none⟩ (.int .i64 c)) P b vl mb nm E (y.at came) most c next := by
 obtain ⟨a1, a2, a3, a4, a5, a6, a7⟩ := h.apart
 obtain ⟨D, hm, hD⟩ := h.map
 have hel := cells_set h.ely 2 (.int .i64 came)
 have hbl := cells_set (cells_other h.blk y.p 2 (.int .i64 came) (Ne.symm a4)) 1 (.int .i64 c)
 refine ⟨h.hP, h.pb, h.pm, h.pl, h.pe, h.py, hbl, set_other (set_other h.row y.p 2 _ a6) b 1 _ a2, fun x hx => cells_other (cells_other (h.els x hx) y.p 2 _ (a7 x hx).2.2.2) b 1 _ (a7 x hx).1, cells_other hel b 1 _ a4,
  ⟨D, (hm.setCell (a := ⟨y.p, 2, none⟩) (Ne.symm a5) _).setCell (a := ⟨b, 1, none⟩) (Ne.symm a1) _, hD.came came⟩, ⟨h.good.nodup, h.good.tick, fun x hx => ?_, h.good.sorted⟩, h.fp, h.ft, h.rng⟩
 have := h.good.range x hx
 exact ⟨this.1, this.2.1, this.2.2.1, by omega⟩
/-- It is in its place. -/
theorem QMid.placed {w1 : World} {vl' : Value} (h : QMid n0 w P b vl mb nm E (y.at came) most (came + 1) next) (hg0 : Good E came next) (h0 : 0 ≤ came) (hg : w.grownBy w1 vl.ownBlock) (hown : w1.ownsRow n0 89 1 vl' (E.length + 1) (ptrs (ins E (y.at came)))) (hat : vl'.ownBlock = vl.ownBlock ∨ ∀ k, vl'.ownBlock = some k → w.heap.size ≤ k) (hn : n0 ≤ w.heap.size) :
  QAt n0 (w1.setCell ⟨b, 3, none⟩ vl') (fun k => P k ∨ w.heap.size ≤ k) b vl' mb nm (ins E (y.at came)) most (came + 1) next := by
 obtain ⟨a1, a2, a3, a4, a5, a6, a7⟩ := h.apart
 obtain ⟨D, hm, hD⟩ := h.map
 have hk : ∀ {k : Nat} {o : Obj}, w.heap[k]? = some o → vl.ownBlock ≠ some k → w1.heap[k]? = some o := fun {k o} hh hne => (hg.block k (Array.getElem?_eq_some_iff.1 hh).1 (Ne.symm hne)).trans hh
 have hb1 := hk h.blk a2
 have d2 : vl'.ownBlock ≠ some b := by
  rcases hat with e | e
  ·rw [e]; exact a2
  ·intro e2; have := e b e2; have := h.lt; omega
 have hp := ins_perm (y.at came) E
 have helt : ∀ x, ElAt w x → vl.ownBlock ≠ some x.p → x.p ≠ b → ElAt (w1.setCell ⟨b, 3, none⟩ vl') x := fun x hx h1 h2 => cells_other (hk hx h1) b 3 _ h2
 refine ⟨fun k hk => hk.elim (h.hP k) (fun h => by omega), .inl h.pb, .inl h.pm, fun k e => ?_, fun x hx => ?_, cells_set hb1 3 vl', ?_, fun x hx => ?_, ⟨D, (hm.kept hg (Ne.symm a3)).setCell (a := ⟨b, 3, none⟩) (Ne.symm a1) _, hD.perm hp.symm⟩, good_ins hg0 h.fp h.ft h.rng h0⟩
 ·rcases hat with e2 | e2
  ·rw [e2] at e; exact .inl (h.pl k e)
  ·exact .inr (e2 k e)
 ·rcases List.mem_cons.1 (hp.mem_iff.1 hx) with rfl | hx
  ·exact .inl h.py
  ·exact .inl (h.pe x hx)
 ·rw [ins_len]
  exact set_other hown b 3 _ d2
 ·rcases List.mem_cons.1 (hp.mem_iff.1 hx) with rfl | hx
  ·exact helt _ h.ely a6 a4
  ·exact helt x (h.els x hx) (a7 x hx).2.2.1 (a7 x hx).1
end
end Go.Proofs.Ytgolghimefageaa.QT
/- A queue: place and Put. -/
namespace Go.Proofs.Ytgolghimefageaa.QT
open Go.Proofs Go.RowKit Go.Shelf Go.Lib Go.Maps Go.Proofs.YtgolghimefageaaW.PrintWords Go.Proofs.YtgolghimefageaaW.PrintLast Go.Proofs.YtgolghimefageaaW.PrintMore Go.Proofs.Ytgolghimefageaa.St
theorem ptrs_ins (E : List El) (y : El) (k : Nat) : (ptrs E).take k ++ .pointer (some ⟨y.p, 0, none⟩) :: (ptrs E).drop k = ptrs (E.take k ++ y :: E.drop k) := by
 unfold ptrs
 rw [List.map_append, List.map_cons, List.map_take, List.map_drop]
theorem ptrs_one (E : List El) : ∀ v ∈ ptrs E, v.oneCell' = true := by
 intro v hv
 obtain ⟨x, _, rfl⟩ := List.mem_map.1 hv
 rfl
set_option maxRecDepth 100000 in
set_option maxHeartbeats 4000000 in
theorem place_calls {n0 : Nat} {w : World} {P : Nat → Prop} {b : Nat} {vl : Value} {mb nm : Nat} {E : List El} {y : El} {most came next : Int} (h : QMid n0 w P b vl mb nm E y most came next) (hE : E.length ≤ 65536) (hc : 0 ≤ came ∧ came < 4611686018427387904) :
  Calls Try.prog 35 #[.pointer (some ⟨b, 0, none⟩), .pointer (some ⟨y.p, 0, none⟩)] w fun e w' => e = .returned (.tuple #[]) ∧ ∃ vl', QAt n0 w' (fun k => P k ∨ w.heap.size ≤ k) b vl' mb nm (ins E (y.at came)) most (came + 1) next ∧ Kept w w' P ∧ Below n0 w w' := by
 obtain ⟨a1, a2, a3, a4, a5, a6, a7⟩ := h.apart
 have hM := h.comes (came + 1) (by omega)
 have hB1 : Below n0 w ((w.setCell ⟨y.p, 2, none⟩ (.int .i64 came)).setCell ⟨b, 1, none⟩ (.int .i64 (came + 1))) := ((Below.refl n0 w).setCell (p := ⟨y.p, 2, none⟩) (h.hP _ h.py) _).setCell (p := ⟨b, 1, none⟩) (h.hP _ h.pb) _
 have hK1 : Kept w ((w.setCell ⟨y.p, 2, none⟩ (.int .i64 came)).setCell ⟨b, 1, none⟩ (.int .i64 (came + 1))) P := ((Kept.refl w P).setCell (p := ⟨y.p, 2, none⟩) (.inl h.py) _).setCell (p := ⟨b, 1, none⟩) (.inl h.pb) _
 have hs1 : ((w.setCell ⟨y.p, 2, none⟩ (.int .i64 came)).setCell ⟨b, 1, none⟩ (.int .i64 (came + 1))).heap.size = w.heap.size := by simp
 have c1 : w.cell? ⟨b, 1, none⟩ = some (.int .i64 came) := cells_at h.blk 1 _ rfl
 have f1 := frozen_at h.blk 1
 have y2 := h.ely.cells.2.2.1
 have fy : w.frozen? ⟨y.p, 2, none⟩ = false := frozen_at h.ely 2
 have d1 : (w.setCell ⟨y.p, 2, none⟩ (.int .i64 came)).cell? ⟨b, 1, none⟩ = some (.int .i64 came) := cells_at (cells_other h.blk y.p 2 _ (Ne.symm a4)) 1 _ rfl
 have g1 : (w.setCell ⟨y.p, 2, none⟩ (.int .i64 came)).frozen? ⟨b, 1, none⟩ = false := frozen_at (cells_other h.blk y.p 2 (.int .i64 came) (Ne.symm a4)) 1
 have hsearch := search_calls hM.row hM.els (y.at came) hM.ely hE hM.good.sorted
 have c3 := cells_at hM.blk 3 vl rfl
 have hz : wrap64 (came + 1) = came + 1 := by unfold wrap64; omega
 have hn0 : n0 ≤ w.heap.size := by have := h.hP _ h.pb; have := h.lt; omega
 have HG := Aside0.mk (And.intro h.good hc.1)
 have HM := Aside0.mk (And.intro hM (And.intro hB1 hK1))
 have HN := Go.Lib.hid (And.intro hn0 (And.intro hE hs1))
 have HA := Aside0.mk (And.intro h.lt (h.row.lt))
 obtain ⟨va, vc, hvl⟩ := own_form h.row
 subst hvl
 clear h hM hB1 hK1 hs1 a1 a2 a3 a4 a5 a6 a7 hE hc hn0
 go_enter Try.func35, Try.ntmps35
 go_wp2_with (first
  | (go_at_call 52; refine hsearch.mono ?_; rintro e w2 ⟨p, t, rfl, hp, hlo, hhi, hB2⟩; have HQ := Aside0.mk (And.intro hp (And.intro hlo hhi)); have HP2 := Aside0.mk (And.intro (HM.out.1.below hB2) (And.intro (HM.out.2.1.trans (hB2.mono (by have := HN.out; omega))) (And.intro (HM.out.2.2.below hB2) (by have := HN.out.2.2; have := hB2.size; omega : w.heap.size ≤ w2.heap.size)))); have c2 := cells_at HP2.out.1.blk 3 (.slice va E.length vc) rfl; have f2 := frozen_at HP2.out.1.blk 3; clear hp hlo hhi hB2 hsearch c3)
  | (go_at_call 54; refine (insert_calls (i := p) (vb := w2.heap.size) (x := .pointer (some ⟨y.p, 0, none⟩)) (HP2.out.1.row.alloc _) (by have := HN.out; have := HP2.out.2.2.2; simp; omega) HQ.out.1 HN.out.2.1 (by intro e; have := (HP2.out.1.row.lt _ e).2; omega) (heap_alloc_new w2 _) rfl (ptrs_one E)).mono ?_; rintro e w4 ⟨vl', rfl, hown4, hgrow, hat⟩; have hg4 : w2.grownBy w4 (Value.slice va E.length vc).ownBlock := grown_of (k := 0) hgrow; have hlt2 := HP2.out.1.lt; have hne2 := HP2.out.1.apart.2.1; have c4 := hg4.cell c2 (Ne.symm hne2); have f4 : w4.frozen? ⟨b, 3, none⟩ = false := (World.frozen?_of_block (hg4.block b hlt2 (Ne.symm hne2))).trans f2; have H4 := Aside0.mk (And.intro hg4 (And.intro hown4 hat)); obtain ⟨va4, vc4, hv4⟩ := own_form hown4; subst hv4; clear hg4 hown4 hgrow hat hlt2 hne2 c2 f2))
 go_end0
 obtain ⟨hg4, hown4, hat⟩ := H4.out
 have hsz2 : (w2.alloc (.cells #[.pointer (some ⟨y.p, 0, none⟩)] 89)).heap.size = w2.heap.size + 1 := World.size_alloc _ _
 have hp2 := HP2.out.1
 have hle := HP2.out.2.2.2
 have e1 : (ptrs E).take p ++ .pointer (some ⟨y.p, 0, none⟩) :: (ptrs E).drop p = ptrs (ins E (y.at came)) := by
  rw [← ins_eq (y.at came) E p HQ.out.1 HQ.out.2.1 HQ.out.2.2]
  exact ptrs_ins E (y.at came) p
 rw [e1] at hown4
 refine ⟨rfl, _, (hp2.placed HG.out.1 HG.out.2 hg4 hown4 ?_ (by have := HN.out.1; omega)).mono ?_ ?_, ?_, ?_⟩
 ·rcases hat with e | e
  ·exact .inl e
  ·exact .inr (fun k hk => by have := e k hk; omega)
 ·rintro k (hk | hk)
  ·exact .inl hk
  ·exact .inr (by omega)
 ·rintro k (hk | hk)
  ·exact hp2.hP k hk
  ·have := HN.out.1; omega
 ·exact (Kept.of_grown hg4 HP2.out.2.2.1 (fun k hk => .inl (hp2.pl k hk))).setCell (p := ⟨b, 3, none⟩) (.inl hp2.pb) _
 ·exact (HP2.out.2.1.grown hg4 (by have := HN.out.1; omega) (fun k hk => hp2.hP k (hp2.pl k hk))).setCell (p := ⟨b, 3, none⟩) (hp2.hP _ hp2.pb) _
end Go.Proofs.Ytgolghimefageaa.QT
/- A queue: Put. -/
namespace Go.Proofs.Ytgolghimefageaa.QT
open Go.Proofs Go.RowKit Go.Shelf Go.Lib Go.Maps Go.Proofs.YtgolghimefageaaW.PrintWords Go.Proofs.YtgolghimefageaaW.PrintLast Go.Proofs.YtgolghimefageaaW.PrintMore Go.Proofs.Ytgolghimefageaa.St
theorem lit_ne {a b : Int} (h : a ≠ b) : (Lit.int .i64 a) ≠ (Lit.int .i64 b) := fun e => h (by injection e)
theorem isKey (a : Int) : WideAt.IsKeyLit (Lit.int .i64 a) := by first | exact trivial | (unfold WideAt.IsKeyLit; simp)
theorem MapOf.put {D : DataW Unit} {E : List El} {y : El} (h : MapOf D E) (hD : IsMap D) (hf : y.ticket ∉ E.map El.ticket) : MapOf (D.put (.int .i64 y.ticket) (.lit (.int .i64 (y.p : Int)))) (y :: E) := by
 refine ⟨fun t => ?_, fun x hx z => ?_⟩
 ·by_cases c : y.ticket = t
  ·subst c
   rw [has_put_same hD (isKey _), List.any_cons, decide_eq_true rfl, Bool.true_or]
  ·rw [has_put_other (lit_ne (Ne.symm c)), h.has, List.any_cons, decide_eq_false c, Bool.false_or]
 ·rcases List.mem_cons.1 hx with rfl | hx
  ·exact atKey_put_same hD (isKey _) _ _
  ·have hne : x.ticket ≠ y.ticket := fun e => hf (e ▸ List.mem_map.2 ⟨x, hx, rfl⟩)
   rw [atKey_put_other (lit_ne hne), h.at_ x hx]
theorem MapOf.gone {D : DataW Unit} {E : List El} {y : El} (h : MapOf D (y :: E)) (hf : y.ticket ∉ E.map El.ticket) : MapOf (D.del (.int .i64 y.ticket)) E := by
 refine ⟨fun t => ?_, fun x hx z => ?_⟩
 ·by_cases c : y.ticket = t
  ·subst c
   rw [has_del_same]
   symm
   rw [List.any_eq_false]
   intro x hx
   have hne : x.ticket ≠ y.ticket := fun e => hf (e ▸ List.mem_map.2 ⟨x, hx, rfl⟩)
   simpa using hne
  ·rw [has_del_other (lit_ne (Ne.symm c)), h.has, List.any_cons, decide_eq_false c, Bool.false_or]
 ·have hne : x.ticket ≠ y.ticket := fun e => hf (e ▸ List.mem_map.2 ⟨x, hx, rfl⟩)
  rw [atKey_del_other (lit_ne hne), h.at_ x (List.mem_cons_of_mem _ hx)]
section
variable {n0 : Nat} {w : World} {P : Nat → Prop} {b : Nat} {vl : Value} {mb nm : Nat} {E : List El} {most came next : Int}
theorem QAt.apart (h : QAt n0 w P b vl mb nm E most came next) : b ≠ mb ∧ vl.ownBlock ≠ some b ∧ vl.ownBlock ≠ some mb ∧ (∀ x, ElAt w x → x.p ≠ b ∧ x.p ≠ mb ∧ vl.ownBlock ≠ some x.p) := by
 obtain ⟨D, ⟨es, clock, hm, _⟩, _⟩ := h.map
 have hel : ∀ x, ElAt w x → x.p ≠ b ∧ x.p ≠ mb ∧ vl.ownBlock ≠ some x.p := by
  intro x hx
  refine ⟨fun e => ?_, fun e => ?_, fun e => ?_⟩
  ·have hb := h.blk
   rw [← e, hx] at hb
   injection hb with hb
   injection hb with _ hb _
   revert hb; decide
  ·unfold ElAt at hx
   rw [e, hm] at hx
   cases hx
  ·obtain ⟨c, hc⟩ := own_typed h.row _ e
   unfold ElAt at hx
   rw [hx] at hc
   injection hc with hc
   injection hc with _ hc _
   revert hc; decide
 refine ⟨fun e => ?_, fun e => ?_, fun e => ?_, hel⟩
 ·have hb := h.blk
  rw [e, hm] at hb
  cases hb
 ·obtain ⟨c, hc⟩ := own_typed h.row _ e
  rw [h.blk] at hc
  injection hc with hc
  injection hc with _ hc _
  revert hc; decide
 ·obtain ⟨c, hc⟩ := own_typed h.row _ e
  rw [hm] at hc
  cases hc
theorem keyed_i : Keyed Try.prog 3 := int_keyed Try.underlying3
/-- A new element, and the map tells of it. -/
theorem QAt.joins (h : QAt n0 w P b vl mb nm E most came next) (k : Int) (v : ByteArray) (hnm : nm < maxLen) (hnx : 0 ≤ next ∧ next < 4611686018427387904) :
  ∃ w5, (Instr.mapUpdate 85 (.map (some mb)) (.int .i64 next) (.pointer (some ⟨w.heap.size, 0, none⟩))).run Try.prog ((w.alloc (.cells #[(.int .i64 k), (.string v), .int .i64 0, .int .i64 next] 91)).setCell ⟨b, 2, none⟩ (.int .i64 (next + 1))).drew.drew = .ok () w5 ∧
   QMid n0 w5 (fun k => P k ∨ w.heap.size ≤ k) b vl mb (nm + 1) E ⟨w.heap.size, k, v, 0, next⟩ most came (next + 1) ∧ Kept w w5 P ∧ Below n0 w w5 := by
 obtain ⟨a1, a2, a3, a4⟩ := h.apart
 obtain ⟨D, hm, hD⟩ := h.map
 have hlt := h.lt
 have hmb := hm.lt
 have hn0 : n0 ≤ w.heap.size := by have := h.hP _ h.pb; omega
 obtain ⟨W2, hW2⟩ : ∃ W2, W2 = ((w.alloc (.cells #[(.int .i64 k), (.string v), .int .i64 0, .int .i64 next] 91)).setCell ⟨b, 2, none⟩ (.int .i64 (next + 1))).drew.drew := ⟨_, rfl⟩
 have hk2 : Kept w W2 (fun k => k = b) := by
  rw [hW2]
  exact ((((Kept.refl w (fun k => k = b)).alloc _).setCell (p := ⟨b, 2, none⟩) (.inl rfl) _).drew).drew
 have hB2 : Below n0 w W2 := by
  rw [hW2]
  have h1 : Below n0 w (w.alloc (.cells #[(.int .i64 k), (.string v), .int .i64 0, .int .i64 next] 91)) := (Below.refl n0 w).alloc hn0 _
  exact ((h1.setCell (p := ⟨b, 2, none⟩) (h.hP _ h.pb) _).drew).drew
 have hm2 : W2.ownsMap Try.prog 3 ptrR mb nm D := own_same hm (hk2.2 mb hmb (Ne.symm a1))
 have hbl : W2.heap[b]? = some (.cells #[.int .i64 most, .int .i64 came, .int .i64 (next + 1), vl, .map (some mb)] 88 (0, 0)) := by
  rw [hW2]
  exact cells_set (w := w.alloc _) ((heap_alloc_old w _ hlt).trans h.blk) 2 _
 have hel : W2.heap[w.heap.size]? = some (.cells #[(.int .i64 k), (.string v), .int .i64 0, .int .i64 next] 91 (0, 0)) := by
  rw [hW2]
  exact cells_other (w := w.alloc _) (heap_alloc_new w _) b 2 _ (by show w.heap.size ≠ b; omega)
 obtain ⟨w5, hrun, hown5, hg5⟩ := hm2.update keyed_i Try.underlying85 hnm (key_of (n := next) (by omega)) (ptrR_some w.heap.size)
 rw [← hW2]
 have hft : next ∉ E.map El.ticket := fun e => by
  obtain ⟨x, hx, e⟩ := List.mem_map.1 e
  have := (h.good.range x hx).2.1
  omega
 have hk5 : ∀ k, k < W2.heap.size → k ≠ mb → w5.heap[k]? = W2.heap[k]? := fun k hk hne => hg5.block k hk (fun e => hne (by injection e))
 have hold : ∀ {k : Nat} {o : Obj}, w.heap[k]? = some o → k ≠ b → k ≠ mb → w5.heap[k]? = some o := fun {k o} hh h1 h2 => by
  have hl := (Array.getElem?_eq_some_iff.1 hh).1
  rw [hk5 k (Nat.lt_of_lt_of_le hl hk2.1) h2, hk2.2 k hl h1]
  exact hh
 have hsz := hk2.1
 refine ⟨w5, hrun, ⟨fun k hk => hk.elim (h.hP k) (fun h => by omega), .inl h.pb, .inl h.pm, fun k e => .inl (h.pl k e), fun x hx => .inl (h.pe x hx), .inr (Nat.le_refl _), ?_, ?_, fun x hx => ?_, ?_, ⟨_, hown5, ?_⟩, ⟨h.good.nodup, h.good.tick, fun x hx => ?_, h.good.sorted⟩, ?_, hft, ?_⟩, ?_, ?_⟩
 ·rw [hk5 b (by omega) a1]; exact hbl
 ·exact own_move h.row (fun k e => by
   have hl := (h.row.lt k e).2
   rw [hk5 k (by omega) (fun e2 => a3 (e2 ▸ e)), hk2.2 k hl (fun e2 => a2 (e2 ▸ e))])
 ·have := a4 x (h.els x hx)
  exact hold (h.els x hx) this.1 this.2.1
 ·exact (hk5 w.heap.size (Array.getElem?_eq_some_iff.1 hel).1 (by show w.heap.size ≠ mb; omega)).trans hel
 ·exact hD.put (y := ⟨w.heap.size, k, v, 0, next⟩) (hm2.isMap) hft
 ·have := h.good.range x hx
  exact ⟨this.1, by omega, this.2.2.1, this.2.2.2⟩
 ·intro e
  obtain ⟨x, hx, e⟩ := List.mem_map.1 e
  have h1 : x.p < w.heap.size := (Array.getElem?_eq_some_iff.1 (h.els x hx)).1
  have h2 : x.p = w.heap.size := e
  omega
 ·show 0 ≤ next ∧ next < next + 1
  omega
 ·exact Kept.of_grown hg5 (hk2.mono (fun k e => by rw [e]; exact h.pb)) (fun k e => by cases e; exact .inl h.pm)
 ·exact hB2.grown hg5 (by omega) (fun k e => by cases e; exact h.hP _ h.pm)
end
theorem mono_ge {P : Nat → Prop} {a c : Nat} (h : a ≤ c) : ∀ k, ((P k ∨ a ≤ k) ∨ c ≤ k) → (P k ∨ a ≤ k) := by
 rintro k ((hk | hk) | hk)
 ·exact .inl hk
 ·exact .inr hk
 ·exact .inr (Nat.le_trans h hk)
set_option maxRecDepth 100000 in
set_option maxHeartbeats 4000000 in
theorem put_calls {n0 : Nat} {w : World} {P : Nat → Prop} {b : Nat} {vl : Value} {mb nm : Nat} {E : List El} {most came next : Int} (h : QAt n0 w P b vl mb nm E most came next) (k : Int) (v : ByteArray) (hroom : (E.length : Int) < most) (hE : E.length ≤ 65536) (hnm : nm < 4611686018427387904) (hnx : 0 ≤ next ∧ next < 4611686018427387904) (hc : 0 ≤ came ∧ came < 4611686018427387904) :
  Calls Try.prog 17 #[.pointer (some ⟨b, 0, none⟩), (.int .i64 k), (.string v)] w fun e w' => e = .returned (.tuple #[.int .i64 next, .int .i64 0]) ∧ ∃ vl' p, QAt n0 w' (fun k => P k ∨ w.heap.size ≤ k) b vl' mb (nm + 1) (ins E ⟨p, k, v, came, next⟩) most (came + 1) (next + 1) ∧ Kept w w' P ∧ Below n0 w w' := by
 obtain ⟨w5, hrun, hQ, hK, hB⟩ := h.joins k v (by unfold maxLen; omega) hnx
 have hplace := place_calls hQ hE hc
 have hlt := h.lt
 obtain ⟨va, vc, hvl⟩ := own_form h.row
 subst hvl
 have eq := eqp ⟨b, 0, none⟩
 have mixed : Try.prog.follows .mixedOrders = true := by kernel_rfl
 have c0 : w.drew.cell? ⟨b, 0, none⟩ = some (.int .i64 most) := h.c0
 have c2 : w.drew.cell? ⟨b, 2, none⟩ = some (.int .i64 next) := h.c2
 have c3 : w.drew.cell? ⟨b, 3, none⟩ = some (.slice va E.length vc) := h.c3
 have c2a : (w.alloc (.cells #[(.int .i64 k), (.string v), .int .i64 0, .int .i64 next] 91)).drew.cell? ⟨b, 2, none⟩ = some (.int .i64 next) := Lib.cell?_alloc_some (W := w) _ h.c2
 have f2a : (w.alloc (.cells #[(.int .i64 k), (.string v), .int .i64 0, .int .i64 next] 91)).drew.frozen? ⟨b, 2, none⟩ = false := frozen_at (w := w.alloc _) ((heap_alloc_old w _ hlt).trans h.blk) 2
 have c4 : ((w.alloc (.cells #[(.int .i64 k), (.string v), .int .i64 0, .int .i64 next] 91)).setCell ⟨b, 2, none⟩ (.int .i64 (next + 1))).drew.drew.cell? ⟨b, 4, none⟩ = some (.map (some mb)) := cells_at (cells_set (w := w.alloc _) ((heap_alloc_old w _ hlt).trans h.blk) 2 (.int .i64 (next + 1))) 4 _ rfl
 have e3 : ((w.alloc (.cells #[(.int .i64 k), (.string v), .int .i64 0, .int .i64 next] 91)).setCell ⟨b, 2, none⟩ (.int .i64 (next + 1))).drew.drew.cell? ⟨w.heap.size, 3, none⟩ = some (.int .i64 next) := cells_at (cells_other (w := w.alloc _) (heap_alloc_new w _) b 2 (.int .i64 (next + 1)) (by show w.heap.size ≠ b; omega)) 3 _ rfl
 have hz : wrap64 (next + 1) = next + 1 := by unfold wrap64; omega
 have hr : decide ((most : Int) ≤ (E.length : Int)) = false := decide_eq_false (by omega)
 have H := Aside0.mk (And.intro hK (And.intro hB (And.intro h.hP (And.intro h.pb (And.intro hlt hQ.ely)))))
 have HS := Go.Lib.hid hK.1
 have hnn : (⟨w.heap.size, k, v, 0, next⟩ : El).at came = ⟨w.heap.size, k, v, came, next⟩ := rfl
 rw [hnn] at hplace
 clear h hQ hK hB hroom hE hnm hnx hc hlt hnn
 go_enter Try.func17, Try.ntmps17
 go_wp2_with fail
 go_region
 go_wp2_with fail
 go_region
 go_wp2_with (go_at_call 35; refine hplace.mono ?_; rintro e w6 ⟨rfl, vl', hQ, hK6, hB6⟩; have HQ := Aside0.mk (And.intro hQ (And.intro hK6 hB6)); have hel6 : ElAt w6 ⟨w.heap.size, k, v, came, next⟩ := hQ.els _ ((ins_perm _ E).mem_iff.2 List.mem_cons_self); have t6 := hel6.cells.2.2.2; clear hQ hK6 hB6 hel6)
 go_ret2
 refine ⟨rfl, vl', w.heap.size, HQ.out.1.mono (mono_ge HS.out) ?_, ?_, H.out.2.1.trans HQ.out.2.2⟩
 ·rintro k (hk | hk)
  ·exact H.out.2.2.1 k hk
  ·have := H.out.2.2.1 _ H.out.2.2.2.1
   have := H.out.2.2.2.2.1
   omega
 ·exact H.out.1.then_ HQ.out.2.1 (fun k hk => hk)
end Go.Proofs.Ytgolghimefageaa.QT
/- A queue: slices.Index and slices.Delete at its elements: the shelf's contracts, laid here. -/
namespace Go.Proofs.Ytgolghimefageaa.QT
open Go.Proofs Go.RowKit Go.Shelf Go.Lib Go.Sort Go.Maps Go.Proofs.YtgolghimefageaaW.PrintWords Go.Proofs.YtgolghimefageaaW.PrintLast Go.Proofs.YtgolghimefageaaW.PrintMore Go.Proofs.Ytgolghimefageaa.St
def renX : Go.Shelf.Ren := ⟨fun | 45 => 72 | n => n, fun | 23 => 89 | 22 => 86 | 3 => 3 | 4 => 4 | 0 => 0 | n => n, fun | n => n⟩
theorem laysD : Go.Proofs.SlLaysE.n45 Try.prog renX := {
 mixed := by kernel_rfl
 f45 := ⟨Try.f72.name, by decide, Try.func72.trans (congrArg some (by kernel_rfl))⟩
 t0 := Try.underlying0
 a0 := Try.isAgg0
 z0 := Try.sizeOf0
 v0 := Try.zeroValue0
 t3 := Try.underlying3
 a3 := Try.isAgg3
 z3 := Try.sizeOf3
 v3 := Try.zeroValue3
 t4 := Try.underlying4
 a4 := Try.isAgg4
 z4 := Try.sizeOf4
 v4 := Try.zeroValue4
 t22 := Try.underlying86
 a22 := Try.isAgg86
 z22 := Try.sizeOf86
 v22 := Try.zeroValue86
 a23 := Try.isAgg89
 z23 := Try.sizeOf89 }
def encO (p : Option Nat) : Value := .pointer (p.map fun p => ⟨p, 0, none⟩)
theorem eqin (d p q : Nat) (w : World) {ca cb : Array Value} {ta tb : TypeId} (hp : w.heap[p]? = some (.cells ca ta (0, 0))) (hq : w.heap[q]? = some (.cells cb tb (0, 0))) : (Op.equalIn (d + 1) 89 (.pointer (some ⟨p, 0, none⟩)) (.pointer (some ⟨q, 0, none⟩))).run Try.prog w = .ok (decide (p = q)) w := by
 by_cases e : p = q
 ·subst e
  simp [Op.equalIn, run_underlying Try.underlying89, run_sameAddr_same]
 ·have h := run_sameAddr_other (P := Try.prog) w (a := ⟨p, 0, none⟩) (b := ⟨q, 0, none⟩) (fun h => e (by injection h)) hp hq
  simp [Op.equalIn, run_underlying Try.underlying89, h, e]
theorem eqel (p q : Nat) (w : World) {ca cb : Array Value} {ta tb : TypeId} (hp : w.heap[p]? = some (.cells ca ta (0, 0))) (hq : w.heap[q]? = some (.cells cb tb (0, 0))) : (binOp .eql 89 (.pointer (some ⟨p, 0, none⟩)) (.pointer (some ⟨q, 0, none⟩))).run Try.prog w = .ok (.bool (decide (p = q))) w := by
 have h : (Op.equal 89 (.pointer (some ⟨p, 0, none⟩)) (.pointer (some ⟨q, 0, none⟩))).run Try.prog w = .ok (decide (p = q)) w := eqin 9999 p q w hp hq
 simp only [binOp]
 simp [h]
set_option maxRecDepth 100000 in
set_option maxHeartbeats 2000000 in
theorem index_calls {n0 : Nat} {w : World} {vl : Value} {E : List El} (hown : w.ownsRow n0 89 1 vl E.length (ptrs E)) (hels : ∀ x ∈ E, ElAt w x) (i : Nat) (hi : i < E.length) (hE : E.length ≤ 65536) (hnd : (E.map El.p).Nodup) :
  Calls Try.prog 71 #[vl, .pointer (some ⟨E[i]!.p, 0, none⟩)] w fun e w' => e = .returned (.int .i64 (i : Int)) ∧ w' = w := by
 obtain ⟨g, cap, rfl, _, _⟩ := own_some hown (by omega)
 have hmem : ∀ j, j < E.length → E[j]! ∈ E := fun j hj => by rw [getElem!_pos E j hj]; exact List.getElem_mem hj
 have HC : Aside0 (∀ j, j < E.length → w.cell? ⟨g, j, none⟩ = some (.pointer (some ⟨E[j]!.p, 0, none⟩))) := ⟨fun j hj => own_cell hown j _ (by
  unfold ptrs
  rw [List.getElem?_map, List.getElem?_eq_getElem hj, getElem!_pos E j hj]
  rfl)⟩
 have HQ : Aside0 (∀ j, j ≤ i → (binOp .eql 89 (.pointer (some ⟨E[i]!.p, 0, none⟩)) (.pointer (some ⟨E[j]!.p, 0, none⟩))).run Try.prog w = .ok (.bool (decide (i = j))) w) := ⟨fun j hj => by
  rw [eqel _ _ w (hels _ (hmem i hi)) (hels _ (hmem j (by omega)))]
  congr 3
  refine propext ⟨fun e => ?_, fun e => by rw [e]⟩
  by_cases c : j < i
  ·have h1 := List.pairwise_iff_getElem.1 hnd j i (by rw [List.length_map]; omega) (by rw [List.length_map]; omega) c
   rw [List.getElem_map, List.getElem_map, ← getElem!_pos E j (by omega), ← getElem!_pos E i hi] at h1
   exact absurd e.symm h1
  ·omega⟩
 have HI := Go.Lib.hid (And.intro hi hE)
 obtain ⟨p, hp⟩ : ∃ p, p = E[i]!.p := ⟨_, rfl⟩
 have HP := Go.Lib.hid hp
 rw [← hp]
 clear hown hels hmem hi hE hnd hp
 go_enter Try.func71, Try.ntmps71
 go_wp2
 go_loopg [8] (i + 1) (fun kx s8 wr => ∃ j : Nat, s8 = .int .i64 (j : Int) ∧ Hid (j ≤ i ∧ i - j < kx) ∧ wr = w)
 case atStart => exact ⟨0, rfl, ⟨Nat.zero_le _, by omega⟩, rfl⟩
 case round =>
  obtain ⟨j, rfl, hj, rfl⟩ := hrel
  have hj1 := hj.out
  have hi1 := HI.out
  have hc := HC.out j (by omega)
  have hq := HQ.out j hj1.1
  rw [← HP.out] at hq
  obtain ⟨q, eq⟩ : ∃ q, q = E[j]!.p := ⟨_, rfl⟩
  rw [← eq] at hc hq
  have z1 : (j : Int) < (E.length : Int) := by omega
  have z1' : j < E.length := by omega
  have z2 : (0 : Int) ≤ (j : Int) := by omega
  by_cases c : i = j
  ·have zc : decide (i = j) = true := decide_eq_true c
   rw [zc] at hq
   have HCC := Go.Lib.hid c
   clear hj1 hi1 eq c zc
   go_wp2
   go_ret
   exact ⟨by rw [HCC.out]; rfl, rfl⟩
  ·have zc : decide (i = j) = false := decide_eq_false c
   rw [zc] at hq
   have HCC := Go.Lib.hid c
   have z3 : wrap64 ((j : Int) + 1) = ((j + 1 : Nat) : Int) := by unfold wrap64; omega
   clear hj1 hi1 eq c zc
   go_wp2
   go_roundg (i - j)
   case measure => exact hj.out.2
   case rel =>
    have hj1 := hj.out
    have hcc : ¬ (i = j) := HCC.out
    exact ⟨j + 1, (by show Value.int .i64 (wrap64 ((j : Int) + 1)) = _; rw [z3]), ⟨by omega, by omega⟩, rfl⟩
theorem delete_calls {n0 : Nat} {w : World} {vl : Value} {E : List El} (hown : w.ownsRow n0 89 1 vl E.length (ptrs E)) (i : Nat) (hi : i < E.length) (hE : E.length ≤ 65536) :
  Calls Try.prog 72 #[vl, .int .i64 (i : Int), .int .i64 ((i : Int) + 1)] w fun e w' => ∃ vl', e = .returned vl' ∧ w'.ownsRow n0 89 1 vl' (E.length - 1) (ptrs (E.eraseIdx i)) ∧ w.grownBy w' vl.ownBlock ∧ vl'.ownBlock = vl.ownBlock := by
 obtain ⟨i0, hi0, hz0, hzs, hzb⟩ := info_parts infoP
 obtain ⟨D, hD⟩ : ∃ D, D = E.map fun x => some x.p := ⟨_, rfl⟩
 have hDl : D.length = E.length := by rw [hD]; exact List.length_map _
 have hm : ptrs E = D.map encO := by rw [hD, List.map_map]; rfl
 rw [hm] at hown
 obtain ⟨g0, cap0, hv, _, _⟩ := own_some hown (by omega)
 obtain ⟨g, cap, rfl, hb, hlt, hn, hmx, hl, hH⟩ := holds_of_ownsRow hown (by rw [hv]; intro e; cases e)
 have hne : D ≠ [] := fun e => by rw [e] at hDl; simp at hDl; omega
 have hsz : D.toArray.size = E.length := by rw [List.size_toArray]; exact hDl
 have h := AnyE.slices_Delete laysD encO (fun _ => rfl) none (fun w => Try.zeroValue89 w) i0 hi0 hzs g 0 cap i (i + 1) D.toArray w hH (by omega) (by unfold maxLen at hmx; exact hmx) (by omega) (by omega)
 rw [hsz] at h
 refine h.mono ?_
 rintro e w' ⟨rfl, q, rfl⟩
 have e1 : E.length - (i + 1 - i) = E.length - 1 := by omega
 have hcut : D.take i ++ D.drop (i + 1) = D.eraseIdx i := (List.eraseIdx_eq_take_drop_succ D i).symm
 have hlen : (D.take i ++ D.drop (i + 1) ++ List.replicate (i + 1 - i) none).length = E.length := by
  rw [hcut, List.length_append, List.length_eraseIdx, List.length_replicate, if_pos (by omega)]
  omega
 have ho := ownsRow_putRow (q := q) (k := E.length - 1) hown hlen (by omega)
 have e2 : (D.take i ++ D.drop (i + 1) ++ List.replicate (i + 1 - i) none).take (E.length - 1) = D.eraseIdx i := by
  rw [hcut]
  exact List.take_left' (by rw [List.length_eraseIdx, if_pos (by omega)]; omega)
 have e3 : (D.eraseIdx i).map encO = ptrs (E.eraseIdx i) := by
  rw [hD, List.eraseIdx_eq_take_drop_succ, List.eraseIdx_eq_take_drop_succ]
  unfold ptrs
  rw [List.map_append, List.map_append, ← List.map_take, ← List.map_drop, List.map_map, List.map_map]
  rfl
 rw [e2, e3] at ho
 rw [e1]
 refine ⟨_, rfl, ho, ⟨rfl, rfl, rfl, by simp [putRow, mapBlock, Sort.ahead], fun k hk hne => ?_⟩, rfl⟩
 simp [putRow, mapBlock, Sort.ahead, Array.getElem?_modify]
 intro e
 exact absurd (by rw [e]; rfl) hne
end Go.Proofs.Ytgolghimefageaa.QT
/- A queue: take, out, at, Pop, PopLast, First. -/
namespace Go.Proofs.Ytgolghimefageaa.QT
open Go.Proofs Go.RowKit Go.Shelf Go.Lib Go.Maps Go.Proofs.YtgolghimefageaaW.PrintWords Go.Proofs.YtgolghimefageaaW.PrintLast Go.Proofs.YtgolghimefageaaW.PrintMore Go.Proofs.Ytgolghimefageaa.St
theorem perm_erase (E : List El) (i : Nat) (hi : i < E.length) : E.Perm (E[i]! :: E.eraseIdx i) := by
 rw [getElem!_pos E i hi, List.eraseIdx_eq_take_drop_succ]
 have h : E.take i ++ E[i] :: E.drop (i + 1) = E := by rw [List.getElem_cons_drop, List.take_append_drop]
 exact (List.Perm.of_eq h.symm).trans List.perm_middle
theorem erase_len (E : List El) (i : Nat) (hi : i < E.length) : (E.eraseIdx i).length = E.length - 1 := by rw [List.length_eraseIdx, if_pos hi]
theorem Good.erase {E : List El} {came next : Int} (h : Good E came next) (i : Nat) (hi : i < E.length) : Good (E.eraseIdx i) came next ∧ E[i]!.p ∉ (E.eraseIdx i).map El.p ∧ E[i]!.ticket ∉ (E.eraseIdx i).map El.ticket ∧ (0 ≤ E[i]!.ticket ∧ E[i]!.ticket < next) := by
 have hp := perm_erase E i hi
 have h1 := List.nodup_cons.1 ((hp.map El.p).nodup_iff.1 h.nodup)
 have h2 := List.nodup_cons.1 ((hp.map El.ticket).nodup_iff.1 h.tick)
 have h3 := h.range _ (hp.mem_iff.2 List.mem_cons_self)
 exact ⟨⟨h1.2, h2.2, fun x hx => h.range x (hp.mem_iff.2 (List.mem_cons_of_mem _ hx)), h.sorted.sublist (List.eraseIdx_sublist E i)⟩, h1.1, h2.1, h3.1, h3.2.1⟩
section
variable {n0 : Nat} {w : World} {P : Nat → Prop} {b : Nat} {vl : Value} {mb nm : Nat} {E : List El} {most came next : Int}
theorem QAt.taken {w1 : World} {vl' : Value} (h : QAt n0 w P b vl mb nm E most came next) (i : Nat) (hi : i < E.length) (hown : w1.ownsRow n0 89 1 vl' (E.length - 1) (ptrs (E.eraseIdx i))) (hg : w.grownBy w1 vl.ownBlock) (hat : vl'.ownBlock = vl.ownBlock) :
  QMid n0 (w1.setCell ⟨b, 3, none⟩ vl') P b vl' mb nm (E.eraseIdx i) E[i]! most came next := by
 obtain ⟨a1, a2, a3, a4⟩ := h.apart
 obtain ⟨D, hm, hD⟩ := h.map
 obtain ⟨g1, g2, g3, g4⟩ := h.good.erase i hi
 have hp := perm_erase E i hi
 have hk : ∀ {k : Nat} {o : Obj}, w.heap[k]? = some o → vl.ownBlock ≠ some k → w1.heap[k]? = some o := fun {k o} hh hne => (hg.block k (Array.getElem?_eq_some_iff.1 hh).1 (Ne.symm hne)).trans hh
 have helt : ∀ x ∈ E, ElAt (w1.setCell ⟨b, 3, none⟩ vl') x := fun x hx => cells_other (hk (h.els x hx) (a4 x (h.els x hx)).2.2) b 3 _ (a4 x (h.els x hx)).1
 have hi1 : E[i]! ∈ E := hp.mem_iff.2 List.mem_cons_self
 refine ⟨h.hP, h.pb, h.pm, fun k e => h.pl k (hat ▸ e), fun x hx => h.pe x (hp.mem_iff.2 (List.mem_cons_of_mem _ hx)), h.pe _ hi1, cells_set (hk h.blk a2) 3 vl', ?_, fun x hx => helt x (hp.mem_iff.2 (List.mem_cons_of_mem _ hx)), helt _ hi1, ⟨D, (hm.kept hg (Ne.symm a3)).setCell (a := ⟨b, 3, none⟩) (Ne.symm a1) _, hD.perm hp⟩, g1, g2, g3, g4⟩
 rw [erase_len E i hi]
 exact set_other hown b 3 _ (by rw [hat]; exact a2)
end
set_option maxRecDepth 100000 in
set_option maxHeartbeats 2000000 in
theorem take_calls {n0 : Nat} {w : World} {P : Nat → Prop} {b : Nat} {vl : Value} {mb nm : Nat} {E : List El} {most came next : Int} (h : QAt n0 w P b vl mb nm E most came next) (i : Nat) (hi : i < E.length) (hE : E.length ≤ 65536) :
  Calls Try.prog 55 #[.pointer (some ⟨b, 0, none⟩), .pointer (some ⟨E[i]!.p, 0, none⟩)] w fun e w' => e = .returned (.tuple #[]) ∧ ∃ vl', QMid n0 w' P b vl' mb nm (E.eraseIdx i) E[i]! most came next ∧ Kept w w' P ∧ Below n0 w w' := by
 have hidx := index_calls h.row h.els i hi hE h.good.nodup
 have hdel := delete_calls h.row i hi hE
 have c3 := h.c3
 have f3 := h.frozen 3
 have hne := h.apart.2.1
 have hlt := h.lt
 have H := Aside0.mk h
 have HI := Go.Lib.hid hi
 have HA := Aside0.mk (And.intro hne hlt)
 have hz : wrap64 ((i : Int) + 1) = (i : Int) + 1 := by unfold wrap64; omega
 obtain ⟨va, vc, hvl⟩ := own_form h.row
 subst hvl
 obtain ⟨p, hp⟩ : ∃ p, p = E[i]!.p := ⟨_, rfl⟩
 rw [← hp] at hidx ⊢
 have HPP := Go.Lib.hid hp
 clear h hi hE hne hlt hp
 go_enter Try.func55, Try.ntmps55
 go_wp2_with (first
  | (go_at_call 71; refine hidx.mono ?_; rintro e w9 ⟨rfl, h9⟩; have h8 := h9.symm; subst h8; clear h9)
  | (go_at_call 72; refine hdel.mono ?_; rintro e w4 ⟨vl', rfl, hown4, hg4, hat⟩; have c4 := hg4.cell c3 (Ne.symm HA.out.1); have f4 : w4.frozen? ⟨b, 3, none⟩ = false := (World.frozen?_of_block (hg4.block b HA.out.2 (Ne.symm HA.out.1))).trans f3; have H4 := Aside0.mk (And.intro hown4 (And.intro hg4 hat)); obtain ⟨va4, vc4, hv4⟩ := own_form hown4; subst hv4; clear hown4 hg4 hat c3 f3))
 go_end0
 have h := H.out
 obtain ⟨hown4, hg4, hat⟩ := H4.out
 refine ⟨rfl, _, h.taken i HI.out hown4 hg4 hat, (Kept.of_grown hg4 (Kept.refl _ _) (fun k hk => .inl (h.pl k hk))).setCell (p := ⟨b, 3, none⟩) (.inl h.pb) _, ?_⟩
 have hb := h.hP _ h.pb
 have hl := h.lt
 exact ((Below.refl n0 _).grown hg4 (by omega) (fun k hk => h.hP k (h.pl k hk))).setCell (p := ⟨b, 3, none⟩) hb _
set_option maxRecDepth 100000 in
/-- The map forgets y. -/
theorem QMid.leaves {n0 : Nat} {w : World} {P : Nat → Prop} {b : Nat} {vl : Value} {mb nm : Nat} {E : List El} {y : El} {most came next : Int} (h : QMid n0 w P b vl mb nm E y most came next) (hnx : next < 4611686018427387904) :
  ∃ w5, (Builtin.delete_ #[85, 3] 0 #[.map (some mb), .int .i64 y.ticket]).run Try.prog w.drew = .ok (.tuple #[]) w5 ∧ QAt n0 w5 P b vl mb nm E most came next ∧ ElAt w5 y ∧ Kept w w5 P ∧ Below n0 w w5 := by
 obtain ⟨a1, a2, a3, a4, a5, a6, a7⟩ := h.apart
 obtain ⟨D, hm, hD⟩ := h.map
 obtain ⟨w5, hrun, hown5, ht⟩ := (show w.drew.ownsMap Try.prog 3 ptrR mb nm D from hm).drop keyed_i Try.underlying85 (key_of (n := y.ticket) (by have := h.rng; omega)) 0
 have hg := ht.grown
 have hk5 : ∀ {k : Nat} {o : Obj}, w.heap[k]? = some o → k ≠ mb → w5.heap[k]? = some o := fun {k o} hh hne => (hg.block k (Array.getElem?_eq_some_iff.1 hh).1 (fun e => hne (by injection e))).trans hh
 have hlt := h.lt
 have hb := h.hP _ h.pb
 refine ⟨w5, hrun, ⟨h.hP, h.pb, h.pm, h.pl, h.pe, hk5 h.blk a1, own_move h.row (fun k e => hg.block k (h.row.lt k e).2 (fun e2 => a3 (by injection e2 with e2; rw [← e2]; exact e))), fun x hx => hk5 (h.els x hx) (a7 x hx).2.1, ⟨_, hown5, hD.gone h.ft⟩, h.good⟩, hk5 h.ely a5, ?_, ?_⟩
 ·exact Kept.of_grown hg ((Kept.refl w P).drew) (fun k e => by cases e; exact .inl h.pm)
 ·exact ((Below.refl n0 w).drew).grown hg (by show n0 ≤ w.heap.size; omega) (fun k e => by cases e; exact h.hP _ h.pm)
set_option maxRecDepth 100000 in
set_option maxHeartbeats 2000000 in
theorem out_calls {n0 : Nat} {w : World} {P : Nat → Prop} {b : Nat} {vl : Value} {mb nm : Nat} {E : List El} {most came next : Int} (h : QAt n0 w P b vl mb nm E most came next) (i : Nat) (hi : i < E.length) (hE : E.length ≤ 65536) (hnx : next < 4611686018427387904) :
  Calls Try.prog 38 #[.pointer (some ⟨b, 0, none⟩), .pointer (some ⟨E[i]!.p, 0, none⟩)] w fun e w' => e = .returned (.tuple #[]) ∧ ∃ vl', QAt n0 w' P b vl' mb nm (E.eraseIdx i) most came next ∧ ElAt w' E[i]! ∧ Kept w w' P ∧ Below n0 w w' := by
 have htake := take_calls h i hi hE
 have mixed : Try.prog.follows .mixedOrders = true := by kernel_rfl
 have HN := Go.Lib.hid hnx
 obtain ⟨x, hx⟩ : ∃ x, x = E[i]! := ⟨_, rfl⟩
 rw [← hx] at htake ⊢
 clear h hi hE hx hnx
 go_enter Try.func38, Try.ntmps38
 go_wp2_with (go_at_call 55; refine htake.mono ?_; rintro e w2 ⟨rfl, vl', hQ, hK, hB⟩; obtain ⟨w5, hrun, hQ5, hel, hK5, hB5⟩ := hQ.leaves HN.out; have c4 : w2.drew.cell? ⟨b, 4, none⟩ = some (.map (some mb)) := cells_at hQ.blk 4 _ rfl; have t4 : w2.drew.cell? ⟨x.p, 3, none⟩ = some (.int .i64 x.ticket) := hQ.ely.cells.2.2.2; have H5 := Aside0.mk (And.intro hQ5 (And.intro hel (And.intro (hK.then_ hK5 (fun k h => .inl h)) (hB.trans hB5)))); clear hQ hK hB hQ5 hel hK5 hB5)
 go_region
 go_wp2
 go_end0
 exact ⟨rfl, _, H5.out⟩
end Go.Proofs.Ytgolghimefageaa.QT
/- A queue: at, Pop, PopLast, First; Put that is refused. -/
namespace Go.Proofs.Ytgolghimefageaa.QT
open Go.Proofs Go.RowKit Go.Shelf Go.Lib Go.Maps Go.Proofs.YtgolghimefageaaW.PrintWords Go.Proofs.YtgolghimefageaaW.PrintLast Go.Proofs.YtgolghimefageaaW.PrintMore Go.Proofs.Ytgolghimefageaa.St
theorem results_tmp4 {fn : Func} {t u v x : Tmp} (h : fn.results = #[.tmp t, .tmp u, .tmp v, .tmp x]) (tmps : Array Value) (P : Program) (w : World) :
  (results fn tmps).run P w = .ok (.tuple #[tmps.getD t undef, tmps.getD u undef, tmps.getD v undef, tmps.getD x undef]) w := by
 simp [results, h]
section
variable {n0 : Nat} {w : World} {P : Nat → Prop} {b : Nat} {vl : Value} {mb nm : Nat} {E : List El} {most came next : Int}
set_option maxRecDepth 100000 in
theorem put_full (h : QAt n0 w P b vl mb nm E most came next) (k : Int) (v : ByteArray) (hroom : most ≤ (E.length : Int)) :
  Calls Try.prog 17 #[.pointer (some ⟨b, 0, none⟩), (.int .i64 k), (.string v)] w fun e w' => e = .returned (.tuple #[.int .i64 0, .int .i64 61]) ∧ ∃ q, w' = w.drewN q := by
 obtain ⟨va, vc, hvl⟩ := own_form h.row
 subst hvl
 have eq := eqp ⟨b, 0, none⟩
 have mixed : Try.prog.follows .mixedOrders = true := by kernel_rfl
 have c0 : w.drew.cell? ⟨b, 0, none⟩ = some (.int .i64 most) := h.c0
 have c3 : w.drew.cell? ⟨b, 3, none⟩ = some (.slice va E.length vc) := h.c3
 have hr : decide ((most : Int) ≤ (E.length : Int)) = true := decide_eq_true (by omega)
 clear h hroom
 go_enter Try.func17, Try.ntmps17
 go_wp2_with fail
 go_region
 go_wp2_with fail
 go_ret2
 exact ⟨rfl, 1, rfl⟩
set_option maxRecDepth 100000 in
theorem at_first (h : QAt n0 w P b vl mb nm E most came next) (hE : 0 < E.length) :
  Calls Try.prog 37 #[.pointer (some ⟨b, 0, none⟩), .bool false] w fun e w' => e = .returned (.tuple #[.pointer (some ⟨E[0]!.p, 0, none⟩), .bool true]) ∧ w' = w := by
 have hlen := len_calls h
 have c3 := h.c3
 obtain ⟨g, cap, rfl, _, _⟩ := own_some h.row hE
 have cg := own_cell h.row 0 (.pointer (some ⟨E[0]!.p, 0, none⟩)) (by unfold ptrs; rw [List.getElem?_map, List.getElem?_eq_getElem hE, getElem!_pos E 0 hE]; rfl)
 obtain ⟨p, hp⟩ : ∃ p, p = E[0]!.p := ⟨_, rfl⟩
 rw [← hp] at cg ⊢
 have hz : ((E.length : Int) == 0) = false := beq_eq_false_iff_ne.2 (by omega)
 have hz2 : (0 : Int) < (E.length : Int) := by omega
 clear h hp
 go_enter Try.func37, Try.ntmps37
 go_wp2_with (go_at_call 16; refine hlen.mono ?_; rintro e w9 ⟨rfl, h9⟩; have h8 := h9.symm; subst h8; clear h9)
 go_ret2
 exact ⟨rfl, rfl⟩
set_option maxRecDepth 100000 in
theorem at_last (h : QAt n0 w P b vl mb nm E most came next) (hE : 0 < E.length) (hE2 : E.length ≤ 65536) :
  Calls Try.prog 37 #[.pointer (some ⟨b, 0, none⟩), .bool true] w fun e w' => e = .returned (.tuple #[.pointer (some ⟨E[E.length - 1]!.p, 0, none⟩), .bool true]) ∧ ∃ q, w' = w.drewN q := by
 have hlen := len_calls h
 obtain ⟨g, cap, rfl, _, _⟩ := own_some h.row hE
 have c3 : w.drew.cell? ⟨b, 3, none⟩ = some (.slice (some ⟨g, 0, none⟩) E.length cap) := h.c3
 have cg : w.drew.cell? ⟨g, E.length - 1, none⟩ = some (.pointer (some ⟨E[E.length - 1]!.p, 0, none⟩)) := own_cell h.row (E.length - 1) (.pointer (some ⟨E[E.length - 1]!.p, 0, none⟩)) (by unfold ptrs; rw [List.getElem?_map, List.getElem?_eq_getElem (by omega), getElem!_pos E (E.length - 1) (by omega)]; rfl)
 obtain ⟨p, hp⟩ : ∃ p, p = E[E.length - 1]!.p := ⟨_, rfl⟩
 rw [← hp] at cg ⊢
 obtain ⟨m, hm⟩ : ∃ m, m = E.length - 1 := ⟨_, rfl⟩
 rw [← hm] at cg
 have hz : ((E.length : Int) == 0) = false := beq_eq_false_iff_ne.2 (by omega)
 have hz2 : (m : Int) < (E.length : Int) := by omega
 have hz3 : (0 : Int) ≤ (m : Int) := by omega
 have hz1 : wrap64 ((E.length : Int) - 1) = (m : Int) := by unfold wrap64; omega
 have hz1' : IntKind.i64.wrap ((E.length : Int) - 1) = (m : Int) := by clear hz1; rw [IntKind.wrap_i64]; omega
 have mixed : Try.prog.follows .mixedOrders = true := by kernel_rfl
 clear h hp hm hE hE2
 go_enter Try.func37, Try.ntmps37
 go_wp2_with (go_at_call 16; refine hlen.mono ?_; rintro e w9 ⟨rfl, h9⟩; have h8 := h9.symm; subst h8; clear h9)
 go_region
 go_wp2
 go_ret2
 exact ⟨rfl, 1, rfl⟩
def elZ : Array Value := #[(.int .i64 0), (.string ByteArray.empty), .int .i64 0, .int .i64 0]
set_option maxRecDepth 100000 in
theorem at_none (h : QAt n0 w P b vl mb nm [] most came next) (t : Bool) :
  Calls Try.prog 37 #[.pointer (some ⟨b, 0, none⟩), .bool t] w fun e w' => e = .returned (.tuple #[.pointer (some ⟨w.heap.size, 0, none⟩), .bool false]) ∧ w' = w.alloc (.cells elZ 91) := by
 have hlen := len_calls h
 clear h
 go_enter Try.func37, Try.ntmps37
 go_wp2_with (go_at_call 16; refine hlen.mono ?_; rintro e w9 ⟨rfl, h9⟩; have h8 := h9.symm; subst h8; clear h9)
 go_ret2
 exact ⟨rfl, rfl⟩
set_option maxRecDepth 100000 in
set_option maxHeartbeats 1000000 in
theorem pop_some (h : QAt n0 w P b vl mb nm E most came next) (hE : 0 < E.length) (hE2 : E.length ≤ 65536) (hnx : next < 4611686018427387904) :
  Calls Try.prog 19 #[.pointer (some ⟨b, 0, none⟩)] w fun e w' => e = .returned (.tuple #[(.int .i64 E[0]!.k), (.string E[0]!.v), .int .i64 E[0]!.ticket, .bool true]) ∧ ∃ vl', QAt n0 w' P b vl' mb nm (E.eraseIdx 0) most came next ∧ Kept w w' P ∧ Below n0 w w' := by
 have hat := at_first h hE
 have hout := out_calls h 0 hE hE2 hnx
 have mixed : Try.prog.follows .mixedOrders = true := by kernel_rfl
 obtain ⟨x, hx⟩ : ∃ x, x = E[0]! := ⟨_, rfl⟩
 rw [← hx] at hat hout ⊢
 clear h hE hE2 hnx hx
 go_enter Try.func19, Try.ntmps19
 go_wp2_with (first
  | (go_at_call 37; refine hat.mono ?_; rintro e w9 ⟨rfl, h9⟩; have h8 := h9.symm; subst h8; clear h9)
  | (go_at_call 38; refine hout.mono ?_; rintro e w2 ⟨rfl, vl', hQ, hel, hKB⟩; have c0 : w2.drew.cell? ⟨x.p, 0, none⟩ = some (.int .i64 x.k) := hel.cells.1; have c1 : w2.drew.cell? ⟨x.p, 1, none⟩ = some (.string x.v) := hel.cells.2.1; have c3 : w2.drew.cell? ⟨x.p, 3, none⟩ = some (.int .i64 x.ticket) := hel.cells.2.2.2; have H := Aside0.mk (And.intro hQ hKB); clear hQ hKB hel))
 go_region
 go_wp2
 refine bodyPost_ret (results_tmp4 rfl _ _ _) rfl ?_
 exact ⟨rfl, vl', H.out.1.below (pw_below_drewN (Below.refl _ _) 1), H.out.2.1.drew, H.out.2.2.drew⟩
set_option maxRecDepth 100000 in
set_option maxHeartbeats 1000000 in
theorem pop_none (h : QAt n0 w P b vl mb nm [] most came next) :
  Calls Try.prog 19 #[.pointer (some ⟨b, 0, none⟩)] w fun e w' => e = .returned (.tuple #[(.int .i64 0), (.string ByteArray.empty), .int .i64 0, .bool false]) ∧ Below w.heap.size w w' := by
 have hat := at_none h false
 have mixed : Try.prog.follows .mixedOrders = true := by kernel_rfl
 obtain ⟨w1, h1⟩ : ∃ w1, w1 = w.alloc (.cells elZ 91) := ⟨_, rfl⟩
 rw [← h1] at hat
 have hel : w1.drew.heap[w.heap.size]? = some (.cells elZ 91 (0, 0)) := by rw [h1]; exact heap_alloc_new w _
 have c0 : w1.drew.cell? ⟨w.heap.size, 0, none⟩ = some (.int .i64 0) := cells_at hel 0 _ rfl
 have c1 : w1.drew.cell? ⟨w.heap.size, 1, none⟩ = some (.string ByteArray.empty) := cells_at hel 1 _ rfl
 have c3 : w1.drew.cell? ⟨w.heap.size, 3, none⟩ = some (.int .i64 0) := cells_at hel 3 _ rfl
 have HB : Aside0 (Below w.heap.size w w1) := ⟨by rw [h1]; exact below_alloc (Below.refl _ w) _⟩
 clear h h1 hel
 go_enter Try.func19, Try.ntmps19
 go_wp2_with (go_at_call 37; refine hat.mono ?_; rintro e w9 ⟨rfl, h9⟩; have h8 := h9.symm; subst h8; clear h9)
 go_region
 go_wp2
 refine bodyPost_ret (results_tmp4 rfl _ _ _) rfl ?_
 exact ⟨rfl, HB.out.drew⟩
theorem QAt.lower {n1 : Nat} (h : QAt n0 w P b vl mb nm E most came next) (hn : n1 ≤ n0) : QAt n1 w P b vl mb nm E most came next :=
 ⟨fun k hk => Nat.le_trans hn (h.hP k hk), h.pb, h.pm, h.pl, h.pe, h.blk, own_weaken h.row hn, h.els, h.map, h.good⟩
end
end Go.Proofs.Ytgolghimefageaa.QT
/- A queue: by, Get, Remove, Clear. -/
namespace Go.Proofs.Ytgolghimefageaa.QT
open Go.Proofs Go.RowKit Go.Shelf Go.Lib Go.Maps Go.Proofs.YtgolghimefageaaW.PrintWords Go.Proofs.YtgolghimefageaaW.PrintLast Go.Proofs.YtgolghimefageaaW.PrintMore Go.Proofs.Ytgolghimefageaa.St
theorem zero_ptr (w : World) : (zeroValue 89).run Try.prog w = .ok (.pointer none) w := Try.zeroValue89 w
section
variable {n0 : Nat} {w : World} {P : Nat → Prop} {b : Nat} {vl : Value} {mb nm : Nat} {E : List El} {most came next : Int}
set_option maxRecDepth 100000 in
theorem by_yes (h : QAt n0 w P b vl mb nm E most came next) (i : Nat) (hi : i < E.length) (hnx : next < 4611686018427387904) :
  Calls Try.prog 36 #[.pointer (some ⟨b, 0, none⟩), .int .i64 E[i]!.ticket] w fun e w' => e = .returned (.tuple #[.pointer (some ⟨E[i]!.p, 0, none⟩), .bool true]) ∧ w' = w := by
 obtain ⟨D, hm, hD⟩ := h.map
 have hx : E[i]! ∈ E := by rw [getElem!_pos E i hi]; exact List.getElem_mem hi
 obtain ⟨v, ps, hrun, hv⟩ := hm.look_ok keyed_i Try.underlying85 (zero_ptr w) ptrR_none (key_of (n := E[i]!.ticket) (by have := h.good.range _ hx; omega))
 rw [hD.has, List.any_eq_true.2 ⟨_, hx, decide_eq_true rfl⟩] at hrun
 rw [hD.at_ _ hx] at hv
 have hv2 := ptrR_inv hv
 subst hv2
 have c4 := h.c4
 have eq := eqp ⟨b, 0, none⟩
 obtain ⟨x, hxx⟩ : ∃ x, x = E[i]! := ⟨_, rfl⟩
 rw [← hxx] at hrun ⊢
 clear h hm hD hx hv hxx hi
 go_enter Try.func36, Try.ntmps36
 go_wp2
 go_ret2
 exact ⟨rfl, rfl⟩
set_option maxRecDepth 100000 in
theorem by_no (h : QAt n0 w P b vl mb nm E most came next) (t : Int) (ht : -9223372036854775808 ≤ t ∧ t ≤ 9223372036854775807) (hno : ∀ x ∈ E, x.ticket ≠ t) :
  Calls Try.prog 36 #[.pointer (some ⟨b, 0, none⟩), .int .i64 t] w fun e w' => e = .returned (.tuple #[.pointer (some ⟨w.heap.size, 0, none⟩), .bool false]) ∧ w' = w.alloc (.cells elZ 91) := by
 obtain ⟨D, hm, hD⟩ := h.map
 obtain ⟨v, ps, hrun, hv⟩ := hm.look_ok keyed_i Try.underlying85 (zero_ptr w) ptrR_none (key_of ht)
 have hh : Maps.has D (.int .i64 t) = false := by
  rw [hD.has, List.any_eq_false]
  intro x hx
  simpa using hno x hx
 rw [hh] at hrun
 have c4 := h.c4
 have eq := eqp ⟨b, 0, none⟩
 clear h hm hD hv hno ht hh
 go_enter Try.func36, Try.ntmps36
 go_wp2
 go_ret2
 exact ⟨rfl, rfl⟩
end
theorem results_tmp3 {fn : Func} {t u v : Tmp} (h : fn.results = #[.tmp t, .tmp u, .tmp v]) (tmps : Array Value) (P : Program) (w : World) :
  (results fn tmps).run P w = .ok (.tuple #[tmps.getD t undef, tmps.getD u undef, tmps.getD v undef]) w := by
 simp [results, h]
section
variable {n0 : Nat} {w : World} {P : Nat → Prop} {b : Nat} {vl : Value} {mb nm : Nat} {E : List El} {most came next : Int}
set_option maxRecDepth 100000 in
theorem remove_yes (h : QAt n0 w P b vl mb nm E most came next) (i : Nat) (hi : i < E.length) (hE : E.length ≤ 65536) (hnx : next < 4611686018427387904) :
  Calls Try.prog 21 #[.pointer (some ⟨b, 0, none⟩), .int .i64 E[i]!.ticket] w fun e w' => e = .returned (.tuple #[(.string E[i]!.v), .bool true]) ∧ ∃ vl', QAt n0 w' P b vl' mb nm (E.eraseIdx i) most came next ∧ Kept w w' P ∧ Below n0 w w' := by
 have hby := by_yes h i hi hnx
 have hout := out_calls h i hi hE hnx
 obtain ⟨x, hx⟩ : ∃ x, x = E[i]! := ⟨_, rfl⟩
 rw [← hx] at hby hout ⊢
 clear h hi hx hE hnx
 go_enter Try.func21, Try.ntmps21
 go_wp2_with (first
  | (go_at_call 36; refine hby.mono ?_; rintro e w9 ⟨rfl, h9⟩; have h8 := h9.symm; subst h8; clear h9)
  | (go_at_call 38; refine hout.mono ?_; rintro e w2 ⟨rfl, vl', hQ, hel, hKB⟩; have c1 : w2.cell? ⟨x.p, 1, none⟩ = some (.string x.v) := hel.cells.2.1; have H := Aside0.mk (And.intro hQ hKB); clear hQ hKB hel))
 go_ret2
 exact ⟨rfl, vl', H.out⟩
set_option maxRecDepth 100000 in
theorem remove_no (h : QAt n0 w P b vl mb nm E most came next) (t : Int) (ht : -9223372036854775808 ≤ t ∧ t ≤ 9223372036854775807) (hno : ∀ x ∈ E, x.ticket ≠ t) :
  Calls Try.prog 21 #[.pointer (some ⟨b, 0, none⟩), .int .i64 t] w fun e w' => e = .returned (.tuple #[(.string ByteArray.empty), .bool false]) ∧ Below w.heap.size w w' := by
 have hby := by_no h t ht hno
 obtain ⟨w1, h1⟩ : ∃ w1, w1 = w.alloc (.cells elZ 91) := ⟨_, rfl⟩
 rw [← h1] at hby
 have hel : w1.heap[w.heap.size]? = some (.cells elZ 91 (0, 0)) := by rw [h1]; exact heap_alloc_new w _
 have c1 : w1.cell? ⟨w.heap.size, 1, none⟩ = some (.string ByteArray.empty) := cells_at hel 1 _ rfl
 have HB : Aside0 (Below w.heap.size w w1) := ⟨by rw [h1]; exact below_alloc (Below.refl _ w) _⟩
 clear h h1 hel ht hno
 go_enter Try.func21, Try.ntmps21
 go_wp2_with (go_at_call 36; refine hby.mono ?_; rintro e w9 ⟨rfl, h9⟩; have h8 := h9.symm; subst h8; clear h9)
 go_ret2
 exact ⟨rfl, HB.out⟩
set_option maxRecDepth 100000 in
theorem clear_calls (h : QAt n0 w P b vl mb nm E most came next) :
  Calls Try.prog 20 #[.pointer (some ⟨b, 0, none⟩)] w fun e w' => e = .returned (.tuple #[]) ∧ QAt n0 w' P b (.slice none 0 0) mb 0 [] most came next ∧ Kept w w' P ∧ Below n0 w w' := by
 obtain ⟨a1, a2, a3, a4⟩ := h.apart
 obtain ⟨D, hm, hD⟩ := h.map
 have hb := h.hP _ h.pb
 have hlt := h.lt
 have hm1 : (w.setCell ⟨b, 3, none⟩ (.slice none 0 0)).ownsMap Try.prog 3 ptrR mb nm D := hm.setCell (a := ⟨b, 3, none⟩) (Ne.symm a1) _
 have hbl := cells_set h.blk 3 (.slice none 0 0)
 obtain ⟨w5, hrun, hown5, ht⟩ := clear_own hm1 Try.underlying85 0
 have hg := ht.grown
 have c3 := h.c3
 have f3 := h.frozen 3
 have c4 : (w.setCell ⟨b, 3, none⟩ (.slice none 0 0)).cell? ⟨b, 4, none⟩ = some (.map (some mb)) := cells_at hbl 4 _ rfl
 have ne := nep ⟨b, 0, none⟩
 have hbl5 : w5.heap[b]? = some (.cells #[.int .i64 most, .int .i64 came, .int .i64 next, .slice none 0 0, .map (some mb)] 88 (0, 0)) := (hg.block b (by simpa using hlt) (fun e => a1 (by injection e))).trans hbl
 have H : Aside0 (QAt n0 w5 P b (.slice none 0 0) mb 0 [] most came next ∧ Kept w w5 P ∧ Below n0 w w5) := by
  refine ⟨⟨h.hP, h.pb, h.pm, (fun k e => by cases e), (fun x hx => by cases hx), hbl5, World.ownsRow_nil _ _ _ _, (fun x hx => by cases hx), ⟨_, hown5, ⟨fun t => rfl, (fun x hx => by cases hx)⟩⟩, ⟨List.nodup_nil, List.nodup_nil, (fun x hx => by cases hx), List.Pairwise.nil⟩⟩, ?_, ?_⟩
  ·exact Kept.of_grown hg ((Kept.refl w P).setCell (p := ⟨b, 3, none⟩) (.inl h.pb) _) (fun k e => by cases e; exact .inl h.pm)
  ·exact ((Below.refl n0 w).setCell (p := ⟨b, 3, none⟩) hb _).grown hg (by simp; omega) (fun k e => by cases e; exact h.hP _ h.pm)
 clear h hm hD hb hlt hm1 hbl hown5 ht hg hbl5 a1 a2 a3 a4
 go_enter Try.func20, Try.ntmps20
 go_wp2
 go_end0
 exact ⟨rfl, H.out⟩
end
end Go.Proofs.Ytgolghimefageaa.QT
/- A queue: Get. -/
namespace Go.Proofs.Ytgolghimefageaa.QT
open Go.Proofs Go.RowKit Go.Shelf Go.Lib Go.Maps Go.Proofs.YtgolghimefageaaW.PrintWords Go.Proofs.YtgolghimefageaaW.PrintLast Go.Proofs.YtgolghimefageaaW.PrintMore Go.Proofs.Ytgolghimefageaa.St
section
variable {n0 : Nat} {w : World} {P : Nat → Prop} {b : Nat} {vl : Value} {mb nm : Nat} {E : List El} {most came next : Int}
set_option maxRecDepth 100000 in
theorem get_yes (h : QAt n0 w P b vl mb nm E most came next) (i : Nat) (hi : i < E.length) (hnx : next < 4611686018427387904) :
  Calls Try.prog 18 #[.pointer (some ⟨b, 0, none⟩), .int .i64 E[i]!.ticket] w fun e w' => e = .returned (.tuple #[(.int .i64 E[i]!.k), (.string E[i]!.v), .bool true]) ∧ ∃ q, w' = w.drewN q := by
 have hby := by_yes h i hi hnx
 have hel : ElAt w E[i]! := h.els _ (by rw [getElem!_pos E i hi]; exact List.getElem_mem hi)
 have mixed : Try.prog.follows .mixedOrders = true := by kernel_rfl
 obtain ⟨x, hx⟩ : ∃ x, x = E[i]! := ⟨_, rfl⟩
 rw [← hx] at hby hel ⊢
 have c0 : w.drew.cell? ⟨x.p, 0, none⟩ = some (.int .i64 x.k) := hel.cells.1
 have c1 : w.drew.cell? ⟨x.p, 1, none⟩ = some (.string x.v) := hel.cells.2.1
 clear h hi hx hel hnx
 go_enter Try.func18, Try.ntmps18
 go_wp2_with (go_at_call 36; refine hby.mono ?_; rintro e w9 ⟨rfl, h9⟩; have h8 := h9.symm; subst h8; clear h9)
 go_region
 go_wp2
 refine bodyPost_ret (results_tmp3 rfl _ _ _) rfl ?_
 exact ⟨rfl, 1, rfl⟩
set_option maxRecDepth 100000 in
theorem get_no (h : QAt n0 w P b vl mb nm E most came next) (t : Int) (ht : -9223372036854775808 ≤ t ∧ t ≤ 9223372036854775807) (hno : ∀ x ∈ E, x.ticket ≠ t) :
  Calls Try.prog 18 #[.pointer (some ⟨b, 0, none⟩), .int .i64 t] w fun e w' => e = .returned (.tuple #[(.int .i64 0), (.string ByteArray.empty), .bool false]) ∧ Below w.heap.size w w' := by
 have hby := by_no h t ht hno
 have mixed : Try.prog.follows .mixedOrders = true := by kernel_rfl
 obtain ⟨w1, h1⟩ : ∃ w1, w1 = w.alloc (.cells elZ 91) := ⟨_, rfl⟩
 rw [← h1] at hby
 have hel : w1.drew.heap[w.heap.size]? = some (.cells elZ 91 (0, 0)) := by rw [h1]; exact heap_alloc_new w _
 have c0 : w1.drew.cell? ⟨w.heap.size, 0, none⟩ = some (.int .i64 0) := cells_at hel 0 _ rfl
 have c1 : w1.drew.cell? ⟨w.heap.size, 1, none⟩ = some (.string ByteArray.empty) := cells_at hel 1 _ rfl
 have HB : Aside0 (Below w.heap.size w w1) := ⟨by rw [h1]; exact below_alloc (Below.refl _ w) _⟩
 clear h h1 hel ht hno
 go_enter Try.func18, Try.ntmps18
 go_wp2_with (go_at_call 36; refine hby.mono ?_; rintro e w9 ⟨rfl, h9⟩; have h8 := h9.symm; subst h8; clear h9)
 go_region
 go_wp2
 refine bodyPost_ret (results_tmp3 rfl _ _ _) rfl ?_
 exact ⟨rfl, HB.out.drew⟩
end
end Go.Proofs.Ytgolghimefageaa.QT
/- awake: two elements come out in their order. -/
namespace Go.Proofs.Ytgolghimefageaa.QT
open Go.Proofs Go.RowKit Go.Shelf Go.Lib Go.Maps Go.Proofs.YtgolghimefageaaW.PrintWords Go.Proofs.YtgolghimefageaaW.PrintLast Go.Proofs.YtgolghimefageaaW.PrintMore Go.Proofs.Ytgolghimefageaa.St
def elA (p : Nat) : El := ⟨p, 5, ⟨#[97]⟩, 0, 0⟩
def elB (p : Nat) : El := ⟨p, 3, ⟨#[98]⟩, 1, 1⟩
theorem insB (p1 p2 : Nat) : ins [elA p1] (elB p2) = [elB p2, elA p1] := by
 have h1 : klt 5 3 = false := rfl
 have hna : ¬ Ahead (elA p1) (elB p2) := by
  rintro (h | ⟨h, _⟩)
  ·have h2 : klt 5 3 = true := h
   rw [h1] at h2
   cases h2
  ·have h2 : (5 : Int) = 3 := h
   omega
 show (if Ahead (elA p1) (elB p2) then elA p1 :: ins [] (elB p2) else elB p2 :: elA p1 :: []) = _
 rw [if_neg hna]
theorem putA {n0 : Nat} {w : World} {P : Nat → Prop} {b : Nat} {vl : Value} {mb : Nat} (h : QAt n0 w P b vl mb 0 [] 2 0 0) : Calls Try.prog 17 #[.pointer (some ⟨b, 0, none⟩), .int .i64 5, .string ⟨#[97]⟩] w fun e w' => e = .returned (.tuple #[.int .i64 0, .int .i64 0]) ∧ ∃ vl' p, QAt n0 w' (fun k => P k ∨ w.heap.size ≤ k) b vl' mb 1 [elA p] 2 1 1 ∧ Below n0 w w' := by
 refine (put_calls h 5 ⟨#[97]⟩ (by simp) (by simp) (by omega) (by omega) (by omega)).mono ?_
 rintro e w' ⟨rfl, vl', p, hQ, _, hB⟩
 exact ⟨rfl, vl', p, hQ, hB⟩
theorem putB {n0 : Nat} {w : World} {P : Nat → Prop} {b : Nat} {vl : Value} {mb p : Nat} (h : QAt n0 w P b vl mb 1 [elA p] 2 1 1) : Calls Try.prog 17 #[.pointer (some ⟨b, 0, none⟩), .int .i64 3, .string ⟨#[98]⟩] w fun e w' => e = .returned (.tuple #[.int .i64 1, .int .i64 0]) ∧ ∃ vl' p2, QAt n0 w' (fun k => P k ∨ w.heap.size ≤ k) b vl' mb 2 [elB p2, elA p] 2 2 2 ∧ Below n0 w w' := by
 refine (put_calls h 3 ⟨#[98]⟩ (by simp) (by simp) (by omega) (by omega) (by omega)).mono ?_
 rintro e w' ⟨rfl, vl', p2, hQ, _, hB⟩
 refine ⟨rfl, vl', p2, ?_, hB⟩
 rw [← insB p p2]
 exact hQ
theorem popB {n0 : Nat} {w : World} {P : Nat → Prop} {b : Nat} {vl : Value} {mb p p2 : Nat} (h : QAt n0 w P b vl mb 2 [elB p2, elA p] 2 2 2) : Calls Try.prog 19 #[.pointer (some ⟨b, 0, none⟩)] w fun e w' => e = .returned (.tuple #[.int .i64 3, .string ⟨#[98]⟩, .int .i64 1, .bool true]) ∧ ∃ vl', QAt n0 w' P b vl' mb 2 [elA p] 2 2 2 ∧ Below n0 w w' := by
 refine (pop_some h (by simp) (by simp) (by omega)).mono ?_
 rintro e w' ⟨rfl, vl', hQ, _, hB⟩
 exact ⟨rfl, vl', hQ, hB⟩
theorem lenA {n0 : Nat} {w : World} {P : Nat → Prop} {b : Nat} {vl : Value} {mb p : Nat} (h : QAt n0 w P b vl mb 2 [elA p] 2 2 2) : Calls Try.prog 16 #[.pointer (some ⟨b, 0, none⟩)] w fun e w' => e = .returned (.int .i64 1) ∧ w' = w := len_calls h
set_option maxRecDepth 100000 in
set_option maxHeartbeats 1000000 in
theorem awake_calls (w : World) : Calls Try.prog 8 #[] w fun e w' => e = .returned (.bool true) ∧ Below w.heap.size w w' := by
 have hnew := new_calls 2 (by omega) w
 go_enter Try.func8, Try.ntmps8
 go_wp2_with (first
  | (go_at_call 16; refine (lenA H4.out.1).mono ?_; rintro e w9 ⟨rfl, h9⟩; have h8 := h9.symm; subst h8; clear h9)
  | (go_at_call 19; refine (popB H3.out.1).mono ?_; rintro e w4 ⟨rfl, vl4, hQ, hB⟩; have H4 := Aside0.mk (And.intro hQ (H3.out.2.trans hB)); clear hQ hB)
  | (go_at_call 17; refine (putB H2.out.1).mono ?_; rintro e w3 ⟨rfl, vl3, p3, hQ, hB⟩; have H3 := Aside0.mk (And.intro hQ (H2.out.2.trans hB)); clear hQ hB)
  | (go_at_call 17; refine (putA H1.out.1).mono ?_; rintro e w2 ⟨rfl, vl2, p2, hQ, hB⟩; have H2 := Aside0.mk (And.intro hQ (H1.out.2.trans hB)); clear hQ hB)
  | (go_at_call 14; refine hnew.mono ?_; rintro e w1 ⟨b, mb, rfl, hQ, hB⟩; have H1 := Aside0.mk (And.intro hQ hB); clear hQ hB hnew; have eqq := eqp ⟨b, 0, none⟩))
 go_ret
 exact ⟨rfl, H4.out.2⟩
end Go.Proofs.Ytgolghimefageaa.QT
