/- A queue: how it lies; New, Len. -/
import Derived.Test.YtgolghimefageaaQ0
namespace Go.Proofs.Ytgolghimefageaa.QW
open Go.Proofs Go.RowKit Go.Maps Go.Proofs.YtgolghimefageaaW.PrintWords Go.Proofs.YtgolghimefageaaW.PrintLast Go.Proofs.YtgolghimefageaaW.PrintMore Go.Proofs.Ytgolghimefageaa.St
/-- What is kept, and where it lies. -/
structure El where
  p : Nat
  k : Int
  v : Int
  came : Int
  ticket : Int
instance : Inhabited El := ⟨⟨0, 0, 0, 0, 0⟩⟩
def klt (a b : Int) : Bool := decide (a < b)
def Ahead (x y : El) : Prop := klt x.k y.k = true ∨ (x.k = y.k ∧ x.came < y.came)
def elCells (x : El) : Array Value := #[(.int .i64 x.k), (.int .i64 x.v), .int .i64 x.came, .int .i64 x.ticket]
def ptrs (E : List El) : List Value := E.map fun x => Value.pointer (some ⟨x.p, 0, none⟩)
/-- The map of tickets says what the list says. -/
structure MapOf (D : DataW Unit) (E : List El) : Prop where
  has : ∀ t : Int, Maps.has D (.int .i64 t) = E.any (fun x => decide (x.ticket = t))
  at_ : ∀ x ∈ E, ∀ z, D.atKey (.int .i64 x.ticket) z = .lit (.int .i64 (x.p : Int))
structure Good (E : List El) (came next : Int) : Prop where
  nodup : (E.map El.p).Nodup
  tick : (E.map El.ticket).Nodup
  range : ∀ x ∈ E, 0 ≤ x.ticket ∧ x.ticket < next ∧ 0 ≤ x.came ∧ x.came < came
  sorted : E.Pairwise Ahead
/-- A queue that lies at b; all its blocks are in P. -/
structure QAt (n0 : Nat) (w : World) (P : Nat → Prop) (b : Nat) (vl : Value) (mb nm : Nat) (E : List El) (most came next : Int) : Prop where
  hP : ∀ k, P k → n0 ≤ k
  pb : P b
  pm : P mb
  pl : ∀ k, vl.ownBlock = some k → P k
  pe : ∀ x ∈ E, P x.p
  blk : w.heap[b]? = some (.cells #[.int .i64 most, .int .i64 came, .int .i64 next, vl, .map (some mb)] 99 (0, 0))
  row : w.ownsRow n0 100 1 vl E.length (ptrs E)
  els : ∀ x ∈ E, w.heap[x.p]? = some (.cells (elCells x) 102 (0, 0))
  map : ∃ D : DataW Unit, w.ownsMap Try.prog 3 ptrR mb nm D ∧ MapOf D E
  good : Good E came next
theorem cells_at {w : World} {b : Nat} {cs : Array Value} {t : TypeId} (h : w.heap[b]? = some (.cells cs t (0, 0))) (j : Nat) (u : Value) (hu : cs[j]? = some u) : w.cell? ⟨b, j, none⟩ = some u := by
  rw [cell_of_row w b j _ _ (0, 0) h]; exact hu
theorem frozen_at {w : World} {b : Nat} {cs : Array Value} {t : TypeId} (h : w.heap[b]? = some (.cells cs t (0, 0))) (j : Nat) : w.frozen? ⟨b, j, none⟩ = false := by
  unfold World.frozen?
  rw [h]
  simp
section
variable {n0 : Nat} {w : World} {P : Nat → Prop} {b : Nat} {vl : Value} {mb nm : Nat} {E : List El} {most came next : Int}
theorem QAt.lt (h : QAt n0 w P b vl mb nm E most came next) : b < w.heap.size := (Array.getElem?_eq_some_iff.1 h.blk).1
theorem QAt.c0 (h : QAt n0 w P b vl mb nm E most came next) : w.cell? ⟨b, 0, none⟩ = some (.int .i64 most) := cells_at h.blk 0 _ rfl
theorem QAt.c1 (h : QAt n0 w P b vl mb nm E most came next) : w.cell? ⟨b, 1, none⟩ = some (.int .i64 came) := cells_at h.blk 1 _ rfl
theorem QAt.c2 (h : QAt n0 w P b vl mb nm E most came next) : w.cell? ⟨b, 2, none⟩ = some (.int .i64 next) := cells_at h.blk 2 _ rfl
theorem QAt.c3 (h : QAt n0 w P b vl mb nm E most came next) : w.cell? ⟨b, 3, none⟩ = some vl := cells_at h.blk 3 _ rfl
theorem QAt.c4 (h : QAt n0 w P b vl mb nm E most came next) : w.cell? ⟨b, 4, none⟩ = some (.map (some mb)) := cells_at h.blk 4 _ rfl
theorem QAt.frozen (h : QAt n0 w P b vl mb nm E most came next) (j : Nat) : w.frozen? ⟨b, j, none⟩ = false := frozen_at h.blk j
theorem QAt.kept {w' : World} {S : Nat → Prop} (h : QAt n0 w P b vl mb nm E most came next) (hk : Kept w w' S) (hS : ∀ k, P k → ¬ S k) : QAt n0 w' P b vl mb nm E most came next := by
  obtain ⟨D, hm, hD⟩ := h.map
  exact ⟨h.hP, h.pb, h.pm, h.pl, h.pe, blk_kept h.blk hk (hS _ h.pb), own_move h.row (fun k e => hk.2 k (h.row.lt k e).2 (hS k (h.pl k e))),
    fun x hx => blk_kept (h.els x hx) hk (hS _ (h.pe x hx)), ⟨D, own_same hm (hk.2 mb hm.lt (hS _ h.pm)), hD⟩, h.good⟩
theorem QAt.below {w' : World} (h : QAt n0 w P b vl mb nm E most came next) (hB : Below w.heap.size w w') : QAt n0 w' P b vl mb nm E most came next := h.kept (Kept.of_below hB (fun _ => False)) (fun _ _ h => h)
theorem QAt.mono {P' : Nat → Prop} (h : QAt n0 w P b vl mb nm E most came next) (hP : ∀ k, P k → P' k) (hb : ∀ k, P' k → n0 ≤ k) : QAt n0 w P' b vl mb nm E most came next :=
  ⟨hb, hP _ h.pb, hP _ h.pm, fun k e => hP k (h.pl k e), fun x hx => hP _ (h.pe x hx), h.blk, h.row, h.els, h.map, h.good⟩
theorem ptrs_len (E : List El) : (ptrs E).length = E.length := List.length_map _
end
theorem eqp (a : Addr) (w : World) : (binOp .eql 56 (.pointer (some a)) (.pointer none)).run Try.prog w = .ok (.bool false) w := by kernel_rfl
theorem nep (a : Addr) (w : World) : (binOp .neq 56 (.pointer (some a)) (.pointer none)).run Try.prog w = .ok (.bool true) w := by kernel_rfl
set_option maxRecDepth 100000 in
theorem len_calls {n0 : Nat} {w : World} {P : Nat → Prop} {b : Nat} {vl : Value} {mb nm : Nat} {E : List El} {most came next : Int} (h : QAt n0 w P b vl mb nm E most came next) : Calls Try.prog 31 #[.pointer (some ⟨b, 0, none⟩)] w fun e w' => e = .returned (.int .i64 (E.length : Int)) ∧ w' = w := by
  obtain ⟨a, cap, rfl⟩ := own_form h.row
  have hc := h.c3
  have eq := eqp ⟨b, 0, none⟩
  clear h
  go_enter Try.func31, Try.ntmps31
  go_wp2
  go_ret
  exact ⟨rfl, rfl⟩
theorem QAt.made (w : World) (most : Int) : QAt w.heap.size ((w.alloc (.map #[] 0)).alloc (.cells #[.int .i64 most, .int .i64 0, .int .i64 0, .slice none 0 0, .map (some w.heap.size)] 99)) (fun k => w.heap.size ≤ k) (w.heap.size + 1) (.slice none 0 0) w.heap.size 0 [] most 0 0 := by
  have hs : (w.alloc (.map #[] 0)).heap.size = w.heap.size + 1 := World.size_alloc _ _
  refine ⟨fun _ h => h, by omega, Nat.le_refl _, (fun k e => by cases e), (fun x hx => by cases hx), ?_, World.ownsRow_nil _ _ _ _, (fun x hx => by cases hx), ⟨.map [], (World.ownsMap_made w Try.prog 3 ptrR).alloc _, ⟨fun t => rfl, (fun x hx => by cases hx)⟩⟩, ⟨List.nodup_nil, List.nodup_nil, (fun x hx => by cases hx), List.Pairwise.nil⟩⟩
  have h := heap_alloc_new (w.alloc (.map #[] 0)) (.cells #[.int .i64 most, .int .i64 0, .int .i64 0, .slice none 0 0, .map (some w.heap.size)] 99)
  rw [hs] at h
  exact h
set_option maxRecDepth 100000 in
theorem new_calls (n : Int) (hn : 1 ≤ n ∧ n ≤ 65536) (w : World) : Calls Try.prog 22 #[.int .i64 n] w fun e w' => ∃ b mb, e = .returned (.tuple #[.pointer (some ⟨b, 0, none⟩), .int .i64 0]) ∧ QAt w.heap.size w' (fun k => w.heap.size ≤ k) b (.slice none 0 0) mb 0 [] n 0 0 ∧ Below w.heap.size w w' := by
  have h1 : decide (n < 1) = false := decide_eq_false (by omega)
  have h2 : decide (65536 < n) = false := decide_eq_false (by omega)
  have S0 := Aside0.mk (QAt.made w n)
  have B0 : Aside0 (Below w.heap.size w ((w.alloc (.map #[] 0)).alloc (.cells #[.int .i64 n, .int .i64 0, .int .i64 0, .slice none 0 0, .map (some w.heap.size)] 99))) := ⟨below_alloc (below_alloc (Below.refl _ w) _) _⟩
  have hmm := @run_makeMap Try.prog
  clear hn
  go_enter Try.func22, Try.ntmps22
  go_wp2
  go_ret2
  exact ⟨w.heap.size + 1, w.heap.size, by simp, S0.out, B0.out⟩
set_option maxRecDepth 100000 in
theorem new_no (n : Int) (hn : n < 1 ∨ 65536 < n) (w : World) : Calls Try.prog 22 #[.int .i64 n] w fun e w' => e = .returned (.tuple #[.pointer none, .int .i64 60]) ∧ w' = w := by
  by_cases c : n < 1
  · have h1 : decide (n < 1) = true := decide_eq_true c
    clear hn c
    go_enter Try.func22, Try.ntmps22
    go_wp2
    go_ret2
    exact ⟨rfl, rfl⟩
  · have h1 : decide (n < 1) = false := decide_eq_false c
    have h2 : decide (65536 < n) = true := decide_eq_true (by omega)
    clear hn c
    go_enter Try.func22, Try.ntmps22
    go_wp2
    go_ret2
    exact ⟨rfl, rfl⟩
end Go.Proofs.Ytgolghimefageaa.QW
