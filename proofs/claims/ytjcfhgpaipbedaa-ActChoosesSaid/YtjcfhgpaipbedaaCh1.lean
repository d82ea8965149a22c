/- act.Choose's comparator; what a sort leaves of the world. -/
import Derived.Test.YtjcfhgpaipbedaaStWalk6
import Derived.Test.YtjcfhgpaipbedaaOrder
import Derived.Test.YtjcfhgpaipbedaaKInvWordsMore
import Derived.Below
import Derived.Deep.RegionHeld3
namespace Go.Proofs.Ytjcfhgpaipbedaa.St
open Go.Proofs Go.Shelf Go.RowKit Go.Lib Go.Sort Go.Proofs.YtjcfhgpaipbedaaW.PrintWords
set_option maxRecDepth 1000000 in
/-- act.Choose's comparator: the greater ahead. -/
theorem choose1_calls (lb : Nat) (ad : Addr) (n c : Nat) (i j : Nat) (x y : Int) (w : World) (hb : w.cell? ⟨lb, 0, none⟩ = some (.slice (some ad) n c)) (hi : i < n) (hj : j < n)
    (hx : w.cell? (ad.add i) = some (.int .i64 x)) (hy : w.cell? (ad.add j) = some (.int .i64 y)) :
    Calls Try.prog 37 (#[.int .i64 i, .int .i64 j] ++ #[.pointer (some ⟨lb, 0, none⟩)]) w fun e w' => e = .returned (.int .i64 (cmpI y x)) ∧ ∃ q os, w' = grow (w.drewN q) os := by
  show Calls Try.prog 37 #[.int .i64 i, .int .i64 j, .pointer (some ⟨lb, 0, none⟩)] w _
  have mixed : Try.prog.follows .mixedOrders = true := by kernel_rfl
  have hb1 : w.drew.cell? ⟨lb, 0, none⟩ = some (.slice (some ad) n c) := hb
  have hx1 : w.drew.cell? (ad.add i) = some (.int .i64 x) := hx
  have hy1 : w.drew.cell? (ad.add j) = some (.int .i64 y) := hy
  have hb2 : w.drew.drew.cell? ⟨lb, 0, none⟩ = some (.slice (some ad) n c) := hb
  have hx2 : w.drew.drew.cell? (ad.add i) = some (.int .i64 x) := hx
  have hy2 : w.drew.drew.cell? (ad.add j) = some (.int .i64 y) := hy
  have pi : (0 : Int) ≤ (i : Int) := by omega
  have pj : (0 : Int) ≤ (j : Int) := by omega
  have bi : (i : Int) < (n : Int) := by omega
  have bj : (j : Int) < (n : Int) := by omega
  have k1 : y < x → cmpI y x = -1 := fun h => by rw [cmpI, if_pos h]
  have k2 : x < y → cmpI y x = 1 := fun h => by rw [cmpI, if_neg (by omega), if_pos h]
  have k3 : ¬ y < x → ¬ x < y → cmpI y x = 0 := fun h h' => by rw [cmpI, if_neg h, if_neg h']
  by_cases h1 : y < x
  · have K : Hid (cmpI y x = -1) := k1 h1
    have d1 : decide (y < x) = true := decide_eq_true h1
    clear k1 k2 k3
    go_enter Try.func37, Try.ntmps37
    go_wp2_with fail
    go_region_held3 (fun w' => w'.cell? ⟨lb, 0, none⟩ = some (.slice (some ad) n c) ∧ w'.cell? (ad.add i) = some (.int .i64 x) ∧ w'.cell? (ad.add j) = some (.int .i64 y)) (go_keep) (fail)
    go_wp2_with fail
    go_ret
    exact ⟨by rw [K.out]; rfl, 1, #[], by rw [grow_empty]; rfl⟩
  · have d1 : decide (y < x) = false := decide_eq_false h1
    by_cases h2 : x < y
    · have K : Hid (cmpI y x = 1) := k2 h2
      have d2 : decide (x < y) = true := decide_eq_true h2
      clear k1 k2 k3
      go_enter Try.func37, Try.ntmps37
      go_wp2_with fail
      go_region_held3 (fun w' => w'.cell? ⟨lb, 0, none⟩ = some (.slice (some ad) n c) ∧ w'.cell? (ad.add i) = some (.int .i64 x) ∧ w'.cell? (ad.add j) = some (.int .i64 y)) (go_keep) (fail)
      go_wp2_with fail
      go_region_held3 (fun w' => w'.cell? ⟨lb, 0, none⟩ = some (.slice (some ad) n c) ∧ w'.cell? (ad.add i) = some (.int .i64 x) ∧ w'.cell? (ad.add j) = some (.int .i64 y)) (go_keep) (fail)
      go_wp2_with fail
      go_ret
      exact ⟨by rw [K.out]; rfl, 2, #[], by rw [grow_empty]; rfl⟩
    · have K : Hid (cmpI y x = 0) := k3 h1 h2
      have d2 : decide (x < y) = false := decide_eq_false h2
      clear k1 k2 k3
      go_enter Try.func37, Try.ntmps37
      go_wp2_with fail
      go_region_held3 (fun w' => w'.cell? ⟨lb, 0, none⟩ = some (.slice (some ad) n c) ∧ w'.cell? (ad.add i) = some (.int .i64 x) ∧ w'.cell? (ad.add j) = some (.int .i64 y)) (go_keep) (fail)
      go_wp2_with fail
      go_region_held3 (fun w' => w'.cell? ⟨lb, 0, none⟩ = some (.slice (some ad) n c) ∧ w'.cell? (ad.add i) = some (.int .i64 x) ∧ w'.cell? (ad.add j) = some (.int .i64 y)) (go_keep) (fail)
      go_wp2_with fail
      go_ret
      exact ⟨by rw [K.out]; rfl, 2, #[], by rw [grow_empty]; rfl⟩
theorem size_stable {α : Type} [Inhabited α] (lt : α → α → Bool) (d : Array α) : (stable lt d).size = d.size := by
  have hpass : ∀ (s n q a : Nat) (d : Array α), n - a = q → (pass lt s n a d).size = d.size := by
    intro s n q
    induction q using Nat.strongRecOn with
    | _ q ih =>
      intro a d h
      rw [pass]
      split
      · rw [ih (n - (a + 2 * s)) (by omega) _ _ rfl, size_symMerge]
      · split
        · rw [size_symMerge]
        · rfl
  have hpasses : ∀ (n q s : Nat) (d : Array α), n - s = q → (passes lt s n d).size = d.size := by
    intro n q
    induction q using Nat.strongRecOn with
    | _ q ih =>
      intro s d h
      rw [passes]
      split
      · rw [ih (n - 2 * s) (by omega) _ _ rfl, hpass _ _ _ _ _ rfl]
      · rfl
  unfold stable
  rw [hpasses _ _ _ _ rfl, size_blocks _ _ _ _ _ _ rfl]
def encF (m : Nat) (x : Fin (m + 1)) : Value := .int .i64 (x.val : Int)
def row0 (m : Nat) : Array (Fin (m + 1)) := Array.ofFn fun i => i
theorem size_row0 (m : Nat) : (row0 m).size = m + 1 := by simp [row0]
theorem row0_at (m j : Nat) (h : j < m + 1) : (row0 m)[j]! = ⟨j, h⟩ := by
  rw [getElem!_pos _ j (by rw [size_row0]; exact h)]
  simp [row0]
/-- What the sort's world keeps of the others. -/
theorem sortWorld_other {α : Type} [Inhabited α] (enc : α → Value) (wr : World) (b k : Nat) (dk : Array α) (os : Array Obj) (j : Nat) (hj : j < wr.heap.size) (hne : j ≠ b) : (sortWorld enc wr b 0 k dk os).heap[j]? = wr.heap[j]? := by
  have hz := size_putRow enc (Sort.ahead wr k) b 0 dk
  show ((putRow enc (Sort.ahead wr k) b 0 dk).heap ++ os)[j]? = _
  rw [Array.getElem?_append_left (by rw [hz]; exact hj)]
  show ((wr.heap.modify b (onCells (putCells enc 0 dk))))[j]? = _
  rw [Array.getElem?_modify, if_neg (by omega)]
theorem sortWorld_size {α : Type} [Inhabited α] (enc : α → Value) (wr : World) (b k : Nat) (dk : Array α) (os : Array Obj) : wr.heap.size ≤ (sortWorld enc wr b 0 k dk os).heap.size := by
  have hz := size_putRow enc (Sort.ahead wr k) b 0 dk
  show _ ≤ ((putRow enc (Sort.ahead wr k) b 0 dk).heap ++ os).size
  rw [Array.size_append, hz]
  show wr.heap.size ≤ wr.heap.size + _
  omega
theorem sortWorld_grown {α : Type} [Inhabited α] (enc : α → Value) (wr : World) (b k : Nat) (dk : Array α) (os : Array Obj) : wr.grownBy (sortWorld enc wr b 0 k dk os) (some b) :=
  ⟨rfl, rfl, rfl, sortWorld_size enc wr b k dk os, fun j hj hne => sortWorld_other enc wr b k dk os j hj (fun e => hne (by rw [e]))⟩
theorem sortWorld_own {α : Type} [Inhabited α] (enc : α → Value) (wr : World) (b k : Nat) (dk : Array α) (os : Array Obj) {base e n cap : Nat} {xs : List Value} (h : wr.ownsRow base e 1 (.slice (some ⟨b, 0, none⟩) n cap) n xs) (hdk : dk.size = n) :
    (sortWorld enc wr b 0 k dk os).ownsRow base e 1 (.slice (some ⟨b, 0, none⟩) n cap) n (dk.toList.map enc) := by
  rcases h.2 with ⟨h0, _⟩ | ⟨g, cap', cur, e1, hb, hg, hle, hm, hs, ht⟩
  · cases h0
  · injection e1 with e1 e2 e3
    injection e1 with e1
    injection e1 with e1 _ _
    subst e1
    subst e3
    have hz := size_putRow enc (Sort.ahead wr k) b 0 dk
    have hlt : b < wr.heap.size := (Array.getElem?_eq_some_iff.1 hg).1
    refine ⟨by simp [hdk], .inr ⟨b, cap, putCells enc 0 dk cur, rfl, hb, ?_, hle, hm, by simp [putCells, hs], ?_⟩⟩
    · show ((putRow enc (Sort.ahead wr k) b 0 dk).heap ++ os)[b]? = _
      rw [Array.getElem?_append_left (by rw [hz]; exact hlt)]
      show ((wr.heap.modify b (onCells (putCells enc 0 dk))))[b]? = _
      rw [Array.getElem?_modify, if_pos rfl, hg]
      rfl
    · apply List.ext_getElem?
      intro j
      rcases Nat.lt_or_ge j n with hj | hj
      · rw [List.getElem?_take_of_lt (by omega)]
        unfold putCells
        rw [Array.getElem?_toList, Array.getElem?_mapIdx, Array.getElem?_eq_getElem (by omega), List.getElem?_map, Array.getElem?_toList, Array.getElem?_eq_getElem (by omega)]
        have : j < dk.size := by omega
        simp [this]
      · rw [List.getElem?_eq_none (by rw [List.length_take]; omega), List.getElem?_eq_none (by simp [hdk]; omega)]
end Go.Proofs.Ytjcfhgpaipbedaa.St
