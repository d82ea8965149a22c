/- rank.sorted. -/
import Derived.Test.YtfegaffcalpmbaaRank1
import Derived.Test.YtfegaffcalpmbaaPlaces
import Derived.Test.YtfegaffcalpmbaaKInvWordsMore
import Derived.Below
namespace Go.Proofs.Ytfegaffcalpmbaa.St
open Go.Proofs Go.Shelf Go.RowKit Go.Lib Go.Sort Go.Proofs.YtfegaffcalpmbaaW.PrintWords

set_option maxRecDepth 1000000 in
theorem insertion_none (p : Option Addr) (cap : Nat) (fv : Value) (w : World) :
    Calls Try.prog 76 #[.slice p 0 cap, .int .i64 0, .int .i64 0, fv] w fun e w' => e = .returned (.tuple #[]) ∧ ∃ q os, w' = grow (w.drewN q) os := by
  have mixed : Try.prog.follows .mixedOrders = true := by kernel_rfl
  go_enter Try.func76, Try.ntmps76
  go_wp2
  refine wp_loop_rounds 1 ?_
  rw [rounds_succ]
  go_wp2
  go_end0
  exact ⟨rfl, 0, #[], by rw [grow_empty]; rfl⟩

set_option maxRecDepth 1000000 in
theorem stable_none (p : Option Addr) (cap : Nat) (fv : Value) (w : World) :
    Calls Try.prog 63 #[.slice p 0 cap, .int .i64 0, fv] w fun e w' => e = .returned (.tuple #[]) ∧ ∃ q os, w' = grow (w.drewN q) os := by
  have mixed : Try.prog.follows .mixedOrders = true := by kernel_rfl
  go_enter Try.func63, Try.ntmps63
  go_wp2
  refine wp_loop_rounds 1 ?_
  rw [rounds_succ]
  go_wp2_with fail
  ((with_reducible refine (insertion_none p cap fv _).mono ?_))
  rintro e' w2 ⟨rfl, q, os, rfl⟩
  go_wp2
  refine wp_loop_rounds 1 ?_
  rw [rounds_succ]
  go_wp2
  go_end0
  exact ⟨rfl, q, os, rfl⟩

theorem sortStable_none (p : Option Addr) (cap : Nat) (fv : Value) (w : World) :
    Calls Try.prog 54 #[.slice p 0 cap, fv] w fun e w' => e = .returned (.tuple #[]) ∧ ∃ q os, w' = grow (w.drewN q) os := by
  go_enter Try.func54, Try.ntmps54
  go_wp2_with fail
  ((with_reducible refine (stable_none p cap fv w).mono ?_))
  rintro e' w2 ⟨rfl, q, os, rfl⟩
  go_wp2
  go_end0
  exact ⟨rfl, q, os, rfl⟩

/-- The row of places while it is filled: the first i are told. -/
structure Rw (w : World) (b t n i : Nat) (wr : World) : Prop where
  below : Below b w wr
  hb : w.heap.size ≤ b
  sz : b < wr.heap.size
  row : ∃ cur, wr.heap[b]? = some (.cells cur t (0, 0)) ∧ cur.size = n ∧ ∀ j, j < i → cur[j]? = some (.int .i64 (j : Int))

theorem Rw.cell {w wr : World} {b t n i : Nat} (h : Rw w b t n i wr) (j : Nat) (hj : j < n) : ∃ u, wr.cell? ⟨b, j, none⟩ = some u := by
  obtain ⟨cur, e, hs, _⟩ := h.row
  refine ⟨cur[j]'(by omega), ?_⟩
  unfold World.cell?
  rw [e]
  simp [hs, hj]
theorem Rw.frozen {w wr : World} {b t n i : Nat} (h : Rw w b t n i wr) (j : Nat) : wr.frozen? ⟨b, j, none⟩ = false := by
  obtain ⟨cur, e, hs, _⟩ := h.row
  unfold World.frozen?
  rw [e]
  simp
theorem Rw.drewN {w wr : World} {b t n i : Nat} (h : Rw w b t n i wr) (q : Nat) : Rw w b t n i (wr.drewN q) :=
  ⟨⟨h.below.os, h.below.tape, h.below.output, h.below.size, h.below.block⟩, h.hb, h.sz, h.row⟩
theorem Rw.drew {w wr : World} {b t n i : Nat} (h : Rw w b t n i wr) : Rw w b t n i wr.drew := h.drewN 1
theorem Rw.set {w wr : World} {b t n i : Nat} (h : Rw w b t n i wr) (hi : i < n) : Rw w b t n (i + 1) (wr.setCell ⟨b, i, none⟩ (.int .i64 (i : Int))) := by
  obtain ⟨bl, hb, sz, cur, e, hs, hc⟩ := h
  refine ⟨⟨bl.os, bl.tape, bl.output, by simpa using bl.size, fun k hk => ?_⟩, hb, by simpa using sz, cur.setIfInBounds i (.int .i64 (i : Int)), ?_, by simpa using hs, fun j hj => ?_⟩
  · rw [Below.heap_setCell wr ⟨b, i, none⟩ _ k (by show k ≠ b; omega)]
    exact bl.block k hk
  · unfold World.setCell
    simp only [Array.getElem?_modify, if_true, e, Option.map_some]
    rfl
  · rw [Array.getElem?_setIfInBounds]
    by_cases c : i = j
    · subst c; rw [if_pos rfl, if_pos (by omega)]
    · rw [if_neg c]; exact hc j (by omega)
theorem Rw.made (w : World) (t n : Nat) : Rw w w.heap.size t n 0 (w.alloc (.cells (madeCells #[.int .i64 0] n) t)) := by
  refine ⟨⟨rfl, rfl, rfl, by simp, fun k hk => ?_⟩, Nat.le_refl _, by simp, madeCells #[.int .i64 0] n, ?_, size_madeCells _ _, fun j hj => by omega⟩
  · show (w.heap.push _)[k]? = _
    rw [Array.getElem?_push]
    simp; omega
  · show (w.heap.push _)[w.heap.size]? = _
    simp

def encF (m : Nat) (x : Fin (m + 1)) : Value := .int .i64 (x.val : Int)
def row0 (m : Nat) : Array (Fin (m + 1)) := Array.ofFn fun i => i
theorem size_row0 (m : Nat) : (row0 m).size = m + 1 := by simp [row0]
theorem row0_at (m j : Nat) (h : j < m + 1) : (row0 m)[j]! = ⟨j, h⟩ := by
  rw [getElem!_pos _ j (by rw [size_row0]; exact h)]
  simp [row0]
theorem Rw.holds {w wr : World} {b t m : Nat} (h : Rw w b t (m + 1) (m + 1) wr) : Holds (encF m) wr b 0 (row0 m) := by
  intro j hj
  rw [size_row0] at hj
  refine ⟨?_, by rw [Nat.zero_add]; exact h.frozen j⟩
  obtain ⟨cur, e, hs, hc⟩ := h.row
  rw [row0_at m j hj, Nat.zero_add]
  unfold World.cell?
  rw [e]
  exact hc j hj
theorem size_stable {α : Type} [Inhabited α] (lt : α → α → Bool) (d : Array α) : (stable lt d).size = d.size := by
  have hpass : ∀ (s n q a : Nat) (d : Array α), n - a = q → (pass lt s n a d).size = d.size := by
    intro s n q
    induction q using Nat.strongRecOn with
    | _ q ih =>
      intro a d h
      rw [pass]
      split
      · rw [ih (n - (a + 2 * s)) (by omega) _ _ rfl, size_symMerge]
      · split
        · rw [size_symMerge]
        · rfl
  have hpasses : ∀ (n q s : Nat) (d : Array α), n - s = q → (passes lt s n d).size = d.size := by
    intro n q
    induction q using Nat.strongRecOn with
    | _ q ih =>
      intro s d h
      rw [passes]
      split
      · rw [ih (n - 2 * s) (by omega) _ _ rfl, hpass _ _ _ _ _ rfl]
      · rfl
  unfold stable
  rw [hpasses _ _ _ _ rfl, size_blocks _ _ _ _ _ _ rfl]
theorem sorted_below {w wr : World} {b t n i : Nat} (h : Rw w b t n i wr) {α : Type} [Inhabited α] (enc : α → Value) (k : Nat) (dk : Array α) (os : Array Obj) : Below w.heap.size w (sortWorld enc wr b 0 k dk os) := by
  have hb := h.hb
  have hsz := h.sz
  have hz := size_putRow enc (Sort.ahead wr k) b 0 dk
  refine ⟨h.below.os, h.below.tape, h.below.output, ?_, fun j hj => ?_⟩
  · show _ ≤ ((putRow enc (Sort.ahead wr k) b 0 dk).heap ++ os).size
    rw [Array.size_append, hz]
    have := h.below.size
    show _ ≤ wr.heap.size + _
    omega
  · show ((putRow enc (Sort.ahead wr k) b 0 dk).heap ++ os)[j]? = _
    rw [Array.getElem?_append_left (by rw [hz]; show j < wr.heap.size; omega)]
    show ((wr.heap.modify b (onCells (putCells enc 0 dk))))[j]? = _
    rw [Array.getElem?_modify, if_neg (by omega)]
    exact h.below.block j (by omega)
theorem own_sorted {w wr w' : World} {b t m : Nat} (h : Rw w b t (m + 1) (m + 1) wr) {dk : Array (Fin (m + 1))} (hdk : dk.size = m + 1) (hS : SW (encF m) wr b 0 dk w') (hm : m + 1 ≤ 17592186044416) :
    w'.ownsRow w.heap.size t 1 (.slice (some ⟨b, 0, none⟩) (m + 1) (m + 1)) (m + 1) (dk.toList.map fun x => .int .i64 (x.val : Int)) ∧ Below w.heap.size w w' := by
  obtain ⟨k, os, rfl⟩ := hS
  refine ⟨⟨by simp [hdk], .inr ?_⟩, sorted_below h _ _ _ _⟩
  obtain ⟨cur, e, hs, hc⟩ := h.row
  have hz := size_putRow (encF m) (Sort.ahead wr k) b 0 dk
  refine ⟨b, m + 1, putCells (encF m) 0 dk cur, rfl, h.hb, ?_, Nat.le_refl _, by simp only [maxLen]; omega, ?_, ?_⟩
  · show ((putRow (encF m) (Sort.ahead wr k) b 0 dk).heap ++ os)[b]? = _
    rw [Array.getElem?_append_left (by rw [hz]; exact h.sz)]
    show ((wr.heap.modify b (onCells (putCells (encF m) 0 dk))))[b]? = _
    rw [Array.getElem?_modify, if_pos rfl, e]
    rfl
  · simp [putCells, hs]
  · rw [Nat.mul_one, List.take_of_length_le (by simp [putCells, hs])]
    apply List.ext_getElem?
    intro j
    unfold putCells
    rcases Nat.lt_or_ge j (m + 1) with hj | hj
    · rw [List.getElem?_map, Array.getElem?_toList, Array.getElem?_toList, Array.getElem?_mapIdx, Array.getElem?_eq_getElem (by omega), Array.getElem?_eq_getElem (by omega)]
      simp [hdk, hj, encF]
    · rw [List.getElem?_eq_none (by simp [hs]; omega), List.getElem?_eq_none (by simp [hdk]; omega)]

set_option maxHeartbeats 1000000 in
set_option maxRecDepth 1000000 in
theorem sorted_calls (cf : Nat → Nat → Int) (g : Nat) (cb : Array Value) (n : Nat) (w : World) (hn : n ≤ 17592186044416)
    (eg : ∀ args w, (callFunc g args).run Try.prog w = .ok (.enter g args) w)
    (hcmp : ∀ W, Below w.heap.size w W → ∀ x y : Nat, x < n → y < n → Calls Try.prog g (#[.int .i64 x, .int .i64 y] ++ cb) W fun e w' => e = .returned (.int .i64 (cf x y)) ∧ ∃ q os, w' = grow (W.drewN q) os) :
    Calls Try.prog 40 #[.int .i64 n, .func (.func g) #[] cb] w fun e w' => ∃ v, e = .returned v ∧ Kd.R (Kd.int .i64) 3 w' w.heap.size (fun _ => True) v (places cf n) ∧ Below w.heap.size w w' := by
  have mixed : Try.prog.follows .mixedOrders = true := by kernel_rfl
  have hinfo : (Try.prog.info? 3).map (fun i => (i.zero, i.size, i.bytes)) = some (some (.int .i64 0), 1, 8) := by kernel_rfl
  have mk := print_make_int (P := Try.prog) 23 3 (.int .i64 0) 8 Try.underlying23 hinfo rfl (by omega) (n : Int) (by omega) (by rw [Int.toNat_natCast]; omega)
  simp only [Int.toNat_natCast] at mk
  have HC : Aside (∀ W, Below w.heap.size w W → ∀ x y : Nat, x < n → y < n → Calls Try.prog g (#[.int .i64 x, .int .i64 y] ++ cb) W fun e w' => e = .returned (.int .i64 (cf x y)) ∧ ∃ q os, w' = grow (W.drewN q) os) := hcmp
  clear hcmp hinfo
  go_enter Try.func40, Try.ntmps40
  go_wp2
  have S0 : Aside (Rw w w.heap.size 3 n 0 (w.alloc (.cells (madeCells #[.int .i64 0] n) 3))) := Rw.made w 3 n
  obtain ⟨b, hb⟩ : ∃ b, b = w.heap.size := ⟨_, rfl⟩
  have HB : Hid (b = w.heap.size) := hb
  rw [← hb] at S0 ⊢
  generalize w.alloc (.cells (madeCells #[.int .i64 0] n) 3) = w1 at S0 ⊢
  clear hb mk
  go_loopg [6, 11] n (fun kx s6 s11 wr => ∃ i : Nat, s11 = .int .i64 i ∧ i ≤ n ∧ n - i ≤ kx ∧ Aside (Rw w b 3 n i wr))
  case atStart => exact ⟨0, rfl, by omega, by omega, S0⟩
  case round =>
    clear S0
    obtain ⟨i, rfl, hi, hkx, S1⟩ := hrel
    by_cases hlt : i < n
    · have hltz : (i : Int) < (n : Int) := by omega
      obtain ⟨u, hc⟩ := S1.out.cell i hlt
      have hf := S1.out.frozen i
      have S2 : Aside (Rw w b 3 n (i + 1) (wr.setCell ⟨b, i, none⟩ (.int .i64 (i : Int)))) := S1.out.set hlt
      clear S1
      go_wp2
      go_roundg (n - (i + 1))
      case measure => omega
      case rel => exact ⟨i + 1, by go_num, by omega, Nat.le_refl _, S2⟩
    · have hltz : ¬ (i : Int) < (n : Int) := by omega
      obtain rfl : i = n := by omega
      cases i with
      | zero =>
        go_wp2_with fail
        ((with_reducible refine (sortStable_none _ _ _ _).mono ?_))
        rintro e' w2 ⟨rfl, q, os, rfl⟩
        go_wp2
        refine bodyPost_ret (results_tmp rfl _ _ _) rfl ?_
        obtain ⟨cur, e, hs, hc⟩ := S1.out.row
        have hsz := S1.out.sz
        have bl := S1.out.below
        refine ⟨_, rfl, Kd.R_of_own (enc := Value.int .i64) (xs := ([] : List Int)) ⟨rfl, .inr ⟨b, 0, cur, rfl, by rw [HB.out]; exact Nat.le_refl _, ?_, Nat.le_refl _, Nat.zero_le _, hs, rfl⟩⟩ (fun _ _ => trivial), ?_⟩
        · show (wr.heap ++ os)[b]? = _
          rw [Array.getElem?_append_left hsz]
          exact e
        · refine ⟨bl.os, bl.tape, bl.output, ?_, fun j hj => ?_⟩
          · show _ ≤ (wr.heap ++ os).size
            rw [Array.size_append]
            have := bl.size
            omega
          · show (wr.heap ++ os)[j]? = _
            have hj2 : j < b := by rw [HB.out]; exact hj
            rw [Array.getElem?_append_left (by omega)]
            exact bl.block j hj2
      | succ m =>
        have call : ∀ W, Rw w b 3 (m + 1) (m + 1) W → Calls Try.prog 54 #[.slice (some ⟨b, 0, none⟩) (m + 1) (m + 1), .func (.func g) #[] cb] W fun e w' => e = .returned (.tuple #[]) ∧ SW (encF m) W b 0 (stable (ltOf fun x y : Fin (m + 1) => cf x.val y.val) (row0 m)) w' := by
          intro W hW
          have h := sortStable_calls (encF m) (fun x y : Fin (m + 1) => cf x.val y.val) g cb b 0 (m + 1) (row0 m) W eg (by
            intro k os dk hdk x y
            exact HC.out _ (sorted_below hW (encF m) k dk os) x.val y.val x.isLt y.isLt) ⟨fun _ => rfl, hW.holds, hW.sz⟩ (by rw [size_row0]; omega)
          rw [size_row0] at h
          exact h
        have hst : (stable (ltOf fun x y : Fin (m + 1) => cf x.val y.val) (row0 m)).size = m + 1 := by
          rw [size_stable, size_row0]
        have hpl : Hid (places cf (m + 1) = (stable (ltOf fun x y : Fin (m + 1) => cf x.val y.val) (row0 m)).toList.map fun x => (x.val : Int)) := rfl
        have HS : Hid ((stable (ltOf fun x y : Fin (m + 1) => cf x.val y.val) (row0 m)).size = m + 1) := hst
        have HA : Aside (∀ W, Rw w b 3 (m + 1) (m + 1) W → Calls Try.prog 54 #[.slice (some ⟨b, 0, none⟩) (m + 1) (m + 1), .func (.func g) #[] cb] W fun e w' => e = .returned (.tuple #[]) ∧ SW (encF m) W b 0 (stable (ltOf fun x y : Fin (m + 1) => cf x.val y.val) (row0 m)) w') := call
        clear hst call HC
        generalize stable (ltOf fun x y : Fin (m + 1) => cf x.val y.val) (row0 m) = dk at hpl HS HA
        go_wp2_with fail
        ((with_reducible refine (HA.out _ S1.out).mono ?_))
        rintro e' w2 ⟨rfl, T2⟩
        have S2 : Aside (SW (encF m) wr b 0 dk w2) := T2
        clear T2
        go_wp2
        refine bodyPost_ret (results_tmp rfl _ _ _) rfl ?_
        obtain ⟨h1, h2⟩ := own_sorted S1.out HS.out S2.out hn
        refine ⟨_, rfl, ?_, h2⟩
        rw [hpl.out]
        refine Kd.R_of_own (enc := Value.int .i64) ?_ (fun _ _ => trivial)
        have hl : (dk.toList.map fun x => (x.val : Int)).length = m + 1 := by simp [HS.out]
        rw [hl]
        have he : encs (Value.int .i64) (dk.toList.map fun x => (x.val : Int)) = dk.toList.map fun x => .int .i64 (x.val : Int) := by simp [encs]
        rw [he]
        exact h1
end Go.Proofs.Ytfegaffcalpmbaa.St
