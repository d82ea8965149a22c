/- A pool of whole numbers: New. -/
import Derived.WalkKit
import Derived.Deep.LoopGhost
import Derived.Deep.RegionHeldLaw
import Derived.Deep.AppendLies
import Derived.Lib.Hide
import Derived.Below
import Derived.Test.YtmcmkdpidppcaaaProg
import Derived.Test.YtmcmkdpidppcaaaWMore
namespace Go.Proofs.Ytmcmkdpidppcaaa.St
open Go.Proofs Go.RowKit Go.Proofs.YtmcmkdpidppcaaaW.PrintWords Go.Proofs.YtmcmkdpidppcaaaW.PrintLast Go.Proofs.YtmcmkdpidppcaaaW.PrintMore
def slotCells (S : List (Bool × Int)) : List Value := S.flatMap fun s => [.bool s.1, .int .i64 s.2]
theorem slotCells_len (S : List (Bool × Int)) : (slotCells S).length = S.length * 2 := by
  induction S with
  | nil => rfl
  | cons s S ih => show (([_, _] : List Value) ++ slotCells S).length = _; rw [List.length_append, ih, List.length_cons]; simp only [List.length_cons, List.length_nil]; omega
/-- A pool that lies at b: its places, and the free ones. -/
structure PoolAt (n0 : Nat) (w : World) (b : Nat) (vs vf : Value) (S : List (Bool × Int)) (F : List Int) : Prop where
  hb : n0 ≤ b
  blk : w.heap[b]? = some (.cells #[vs, vf] 87 (0, 0))
  slots : w.ownsRow n0 89 2 vs S.length (slotCells S)
  free : w.ownsRow n0 3 1 vf F.length (F.map (Value.int .i64))
  d1 : vs.ownBlock ≠ some b
  d2 : vf.ownBlock ≠ some b
  d3 : ∀ k, vs.ownBlock = some k → vf.ownBlock ≠ some k
/-- The blocks of a pool. -/
def Foot (b : Nat) (vs vf : Value) (k : Nat) : Prop := k = b ∨ vs.ownBlock = some k ∨ vf.ownBlock = some k
section
variable {n0 : Nat} {w : World} {b : Nat} {vs vf : Value} {S : List (Bool × Int)} {F : List Int}
theorem PoolAt.lt (h : PoolAt n0 w b vs vf S F) : b < w.heap.size := (Array.getElem?_eq_some_iff.1 h.blk).1
theorem PoolAt.cell0 (h : PoolAt n0 w b vs vf S F) : w.cell? ⟨b, 0, none⟩ = some vs := by rw [cell_of_row w b 0 _ _ (0, 0) h.blk]; rfl
theorem PoolAt.cell1 (h : PoolAt n0 w b vs vf S F) : w.cell? ⟨b, 1, none⟩ = some vf := by rw [cell_of_row w b 1 _ _ (0, 0) h.blk]; rfl
theorem PoolAt.frozen (h : PoolAt n0 w b vs vf S F) (j : Nat) : w.frozen? ⟨b, j, none⟩ = false := by
  unfold World.frozen?
  rw [h.blk]
  simp
theorem PoolAt.kept {w' : World} (h : PoolAt n0 w b vs vf S F) (hB : Below w.heap.size w w') : PoolAt n0 w' b vs vf S F := by
  have hg : w.grownBy w' none := ⟨hB.os, hB.tape, hB.output, hB.size, fun k hk _ => hB.block k hk⟩
  refine ⟨h.hb, (hB.block b h.lt).trans h.blk, h.slots.kept hg ?_, h.free.kept hg ?_, h.d1, h.d2, h.d3⟩
  · cases vs.ownBlock <;> simp
  · cases vf.ownBlock <;> simp
theorem PoolAt.grew {w1 : World} (h : PoolAt n0 w b vs vf S F) (hg : w.grownBy w1 vf.ownBlock) : w1.heap[b]? = some (.cells #[vs, vf] 87 (0, 0)) ∧ w1.ownsRow n0 89 2 vs S.length (slotCells S) := by
  refine ⟨(hg.block b h.lt (Ne.symm h.d2)).trans h.blk, h.slots.kept hg ?_⟩
  cases e : vs.ownBlock with
  | none => exact .inl rfl
  | some k => exact .inr (fun e2 => h.d3 k e e2.symm)
theorem set_other {w : World} {v : Value} {n : Nat} {base : Nat} {e : TypeId} {size : Nat} {xs : List Value} (h : w.ownsRow base e size v n xs) (b j : Nat) (u : Value) (hne : v.ownBlock ≠ some b) : (w.setCell ⟨b, j, none⟩ u).ownsRow base e size v n xs := by
  refine ⟨h.1, ?_⟩
  rcases h.2 with hn | ⟨g, cap, cur, rfl, hb, hgg, rest⟩
  · exact .inl hn
  · refine .inr ⟨g, cap, cur, rfl, hb, ?_, rest⟩
    rw [Below.heap_setCell w ⟨b, j, none⟩ _ g (by intro e; exact hne (by show some g = some b; exact congrArg some e))]
    exact hgg
/-- The free places are others. -/
theorem PoolAt.setFree {w1 : World} {F' : List Int} {vf' : Value} (h : PoolAt n0 w b vs vf S F) (hg : w.grownBy w1 vf.ownBlock) (hown : w1.ownsRow n0 3 1 vf' F'.length (F'.map (Value.int .i64)))
    (hat : vf'.ownBlock = vf.ownBlock ∨ ∀ k, vf'.ownBlock = some k → w.heap.size ≤ k) : PoolAt n0 (w1.setCell ⟨b, 1, none⟩ vf') b vs vf' S F' := by
  obtain ⟨h1, h2⟩ := h.grew hg
  have d2' : vf'.ownBlock ≠ some b := by
    rcases hat with e | e
    · rw [e]; exact h.d2
    · intro e2; have := e b e2; have := h.lt; omega
  have d3' : ∀ k, vs.ownBlock = some k → vf'.ownBlock ≠ some k := by
    intro k hk
    rcases hat with e | e
    · rw [e]; exact h.d3 k hk
    · intro e2; have := e k e2; have := (h.slots.lt k hk).2; omega
  refine ⟨h.hb, ?_, set_other h2 b 1 _ h.d1, set_other hown b 1 _ d2', h.d1, d2', d3'⟩
  unfold World.setCell
  simp only [Array.getElem?_modify, if_true, h1, Option.map_some]
  rfl
end
theorem grown_of {w w1 : World} {o : Obj} {row : Option Nat} {k : Nat} (hg : ((w.alloc o).drewN k).grownBy w1 row) : w.grownBy w1 row :=
  ⟨hg.os, hg.tape, hg.output, Nat.le_trans (by show w.heap.size ≤ (w.heap.push _).size; simp) hg.size, fun i hi hne => (hg.block i (Nat.lt_of_lt_of_le hi (by show w.heap.size ≤ (w.heap.push _).size; simp)) hne).trans (by first | exact heap_alloc_old w o hi | exact heap_alloc_old w o i hi)⟩
/-- The free places of a new pool when i is the next. -/
def fallTo (n i : Nat) : List Int := (List.range (n - i)).map fun j : Nat => (n : Int) - 1 - (j : Int)
theorem fallTo_succ (n i : Nat) (h : i < n) : fallTo n i = fallTo n (i + 1) ++ [(i : Int)] := by
  unfold fallTo
  rw [show n - i = (n - (i + 1)) + 1 by omega, List.range_succ, List.map_append, List.map_singleton]
  congr 2
  omega
theorem fallTo_len (n i : Nat) : (fallTo n i).length = n - i := by unfold fallTo; rw [List.length_map, List.length_range]
theorem mk_slots (n : Nat) (hn : 1 ≤ n ∧ n ≤ 65536) : ∀ W : World, (Instr.makeSlice 85 (.int .i64 (n : Int)) (.int .i64 (n : Int))).run Try.prog W = .ok (.slice (some ⟨W.heap.size, 0, none⟩) n n) (W.alloc (.cells (madeCells #[.bool false, .int .i64 0] (n * 2)) 89)) := by
  intro W
  have hinfo : (Try.prog.info? 89).map (fun i => (i.zero, i.size, i.bytes)) = some (some (.agg #[.bool false, .int .i64 0]), 2, 16) := by kernel_rfl
  obtain ⟨i0, hi, hz0, hz1, hz2⟩ := info_parts hinfo
  have h := run_make W 85 89 i0 _ Try.underlying85 hi hz0 .i64 .i64 (n : Int) (n : Int) (by omega) (Int.le_refl _) (by rw [hz2]; omega) (by omega)
  rw [hz1, Int.toNat_natCast] at h
  exact h
theorem slots_made (n : Nat) : (madeCells #[.bool false, .int .i64 0] (n * 2)).toList = slotCells (List.replicate n (false, 0)) := by
  apply List.ext_getElem?
  intro i
  induction n generalizing i with
  | zero => simp [madeCells, slotCells]
  | succ n ih =>
    have e : slotCells (List.replicate (n + 1) (false, 0)) = .bool false :: .int .i64 0 :: slotCells (List.replicate n (false, 0)) := rfl
    rw [e]
    have g : ∀ (m j : Nat), (madeCells #[Value.bool false, .int .i64 0] m).toList[j]? = if j < m then #[Value.bool false, .int .i64 0][j % 2]? else none := by
      intro m j
      rw [Array.getElem?_toList]
      by_cases c : j < m
      · rw [if_pos c]
        simp [madeCells, c]
        rcases Nat.mod_two_eq_zero_or_one j with e | e <;> simp [e]
      · rw [if_neg c]
        exact Array.getElem?_eq_none (by rw [size_madeCells]; omega)
    rw [g]
    match i with
    | 0 => simp
    | 1 => rw [if_pos (by omega)]; rfl
    | i + 2 =>
      rw [List.getElem?_cons_succ, List.getElem?_cons_succ, ← ih i, g]
      by_cases c : i < n * 2
      · rw [if_pos c, if_pos (by omega), Nat.add_mod_right]
      · rw [if_neg c, if_neg (by omega)]
theorem Try.infoI : (Try.prog.info? 3).map (fun i => (i.zero, i.size, i.bytes)) = some (some (.int .i64 0), 1, 8) := by kernel_rfl
theorem PoolAt.made (w : World) (n : Nat) (hn : 1 ≤ n ∧ n ≤ 65536) : PoolAt w.heap.size ((w.alloc (.cells (madeCells #[.bool false, .int .i64 0] (n * 2)) 89)).alloc (.cells #[.slice (some ⟨w.heap.size, 0, none⟩) n n, .slice none 0 0] 87)) (w.heap.size + 1) (.slice (some ⟨w.heap.size, 0, none⟩) n n) (.slice none 0 0) (List.replicate n (false, 0)) [] := by
  have hs : (w.alloc (.cells (madeCells #[.bool false, .int .i64 0] (n * 2)) 89)).heap.size = w.heap.size + 1 := World.size_alloc _ _
  have h0 := World.ownsRow_lit (base := w.heap.size) (e := 89) (size := 2) w (madeCells #[.bool false, .int .i64 0] (n * 2)) n (Nat.le_refl _) (by unfold maxLen; omega) (size_madeCells _ _)
  rw [slots_made] at h0
  refine ⟨by omega, ?_, ?_, World.ownsRow_nil _ _ _ _, ?_, ?_, ?_⟩
  · have h := heap_alloc_new (w.alloc (.cells (madeCells #[.bool false, .int .i64 0] (n * 2)) 89)) (.cells #[.slice (some ⟨w.heap.size, 0, none⟩) n n, .slice none 0 0] 87)
    rw [hs] at h
    exact h
  · rw [List.length_replicate]
    exact h0.alloc _
  · simp [Value.ownBlock]
  · simp [Value.ownBlock]
  · intro k _
    simp [Value.ownBlock]
set_option maxRecDepth 100000 in
set_option maxHeartbeats 2000000 in
theorem new_calls (n : Nat) (hn : 1 ≤ n ∧ n ≤ 65536) (w : World) : Calls Try.prog 29 #[.int .i64 (n : Int)] w fun e w' => ∃ b vs vf, e = .returned (.tuple #[.pointer (some ⟨b, 0, none⟩), .int .i64 0]) ∧ PoolAt w.heap.size w' b vs vf (List.replicate n (false, 0)) (fallTo n 0) ∧ Below w.heap.size w w' := by
  obtain ⟨i0, hi, hz0, hz1, hz2⟩ := info_parts Try.infoI
  have HN := Go.Lib.hid hn
  have mk := mk_slots n hn
  have h1 : decide ((n : Int) < 1) = false := decide_eq_false (by omega)
  have h2 : decide (65536 < (n : Int)) = false := decide_eq_false (by omega)
  have S0 := Aside0.mk (PoolAt.made w n hn)
  have B0 : Aside0 (Below w.heap.size w ((w.alloc (.cells (madeCells #[.bool false, .int .i64 0] (n * 2)) 89)).alloc (.cells #[.slice (some ⟨w.heap.size, 0, none⟩) n n, .slice none 0 0] 87))) := ⟨below_alloc (below_alloc (Below.refl _ w) _) _⟩
  clear hn
  go_enter Try.func29, Try.ntmps29
  go_wp2
  obtain ⟨vs, hvs⟩ : ∃ v, v = Value.slice (some ⟨w.heap.size, 0, none⟩) n n := ⟨_, rfl⟩
  obtain ⟨b, hb⟩ : ∃ b, b = w.heap.size + 1 := ⟨_, rfl⟩
  rw [← hb, ← hvs] at S0
  rw [← hvs] at B0
  rw [← hvs]
  simp only [← hb]
  generalize (w.alloc (.cells (madeCells #[.bool false, .int .i64 0] (n * 2)) 89)).alloc (.cells #[vs, .slice none 0 0] 87) = W0 at S0 B0 ⊢
  clear mk h1 h2 hb hvs
  have e0 : fallTo n n = [] := by unfold fallTo; rw [Nat.sub_self]; rfl
  have S1 : Aside0 (PoolAt w.heap.size W0 b vs (.slice none 0 0) (List.replicate n (false, 0)) (fallTo n n)) := ⟨by rw [e0]; exact S0.out⟩
  clear e0
  clear S0
  go_loopg [5] n (fun kx s5 wr => ∃ (i : Nat) (x : Int) (vf : Value), s5 = .int .i64 x ∧ x = (i : Int) - 1 ∧ i ≤ n ∧ i ≤ kx ∧ Aside0 (PoolAt w.heap.size wr b vs vf (List.replicate n (false, 0)) (fallTo n i)) ∧ Aside0 (Below w.heap.size w wr))
  case atStart => exact ⟨n, _, _, rfl, by have := HN.out; unfold wrap64; omega, Nat.le_refl _, Nat.le_refl _, S1, B0⟩
  case round =>
    clear S1 B0
    obtain ⟨i, x, vf, rfl, hx, hin, hik, S1, B1⟩ := hrel
    cases i with
    | zero =>
      have hx0 : decide (0 ≤ x) = false := decide_eq_false (by omega)
      clear hx
      go_wp2
      go_ret2
      exact ⟨b, vs, vf, rfl, S1.out, B1.out⟩
    | succ j =>
      obtain rfl : x = (j : Int) := by omega
      have hx0 : decide (0 ≤ (j : Int)) = true := decide_eq_true (by omega)
      have hc := S1.out.cell1
      have hf := S1.out.frozen 1
      have hlb := S1.out.lt
      have d2 := S1.out.d2
      have hown := S1.out.free
      have hfl := Go.Lib.hid (fallTo_len n (j + 1))
      have hnn := HN.out
      have hsz := B1.out.size
      have hg0 : ∀ w1, (wr.alloc (.cells #[.int .i64 (j : Int)] 3)).grownBy w1 vf.ownBlock → wr.grownBy w1 vf.ownBlock := fun w1 hg => grown_of (k := 0) hg
      have HF : Aside0 (PoolAt w.heap.size wr b vs vf (List.replicate n (false, 0)) (fallTo n (j + 1)) ∧ Below w.heap.size w wr) := ⟨S1.out, B1.out⟩
      clear S1 B1 hx hnn hsz
      go_wp2_with (at_builtin; refine wpList_append_lies _ rfl _ _ _ rfl w.heap.size 3 i0 _ 1 8 Try.underlying44 hi hz0 hz1 hz2 rfl (by omega) vf (fallTo n (j + 1)).length _ rfl (hown.alloc _) ⟨wr.heap.size, 0, none⟩ 1 1 [.int .i64 (j : Int)] rfl rfl (World.news_of_block (cs := #[.int .i64 (j : Int)]) (t := 3) (fr := (0, 0)) (heap_alloc_new wr _)) (by simp [Value.oneCell']) (by omega) (by have := HN.out; have := hfl.out; unfold maxLen; omega) (by have := HN.out; have := hfl.out; omega) (by have := HF.out.2.size; simp; omega) (wr.heap.size + 1) (by simp) ?_; intro gg cap w1 hown1 hgrow hat hlt; have hg1 := hg0 w1 hgrow; have hc1 : w1.cell? ⟨b, 1, none⟩ = some vf := hg1.cell hc (Ne.symm d2); have hf1 : w1.frozen? ⟨b, 1, none⟩ = false := (World.frozen?_of_block (hg1.block b hlb (Ne.symm d2))).trans hf)
      have hnew : PoolAt w.heap.size (w1.setCell ⟨b, 1, none⟩ (.slice (some ⟨gg, 0, none⟩) ((fallTo n (j + 1)).length + 1) cap)) b vs (.slice (some ⟨gg, 0, none⟩) ((fallTo n (j + 1)).length + 1) cap) (List.replicate n (false, 0)) (fallTo n j) := by
        refine HF.out.1.setFree hg1 ?_ ?_
        · rw [fallTo_succ n j (by omega), List.length_append, List.map_append]
          exact hown1
        · rcases hat with e | e
          · exact .inl e.symm
          · refine .inr fun k hk => ?_
            have hk2 : gg = k := by injection hk
            omega
      have hbel : Below w.heap.size w (w1.setCell ⟨b, 1, none⟩ (.slice (some ⟨gg, 0, none⟩) ((fallTo n (j + 1)).length + 1) cap)) := by
        have hrow : ∀ k, vf.ownBlock = some k → w.heap.size ≤ k := fun k hk => (hown.lt k hk).1
        exact (HF.out.2.grown hg1 (by have := HF.out.2.size; omega) hrow).setCell (by have := HF.out.1.hb; exact this) _
      go_roundg j
      case measure => omega
      case rel => exact ⟨j, _, _, rfl, by have := HN.out; unfold wrap64; omega, by omega, Nat.le_refl _, ⟨hnew⟩, ⟨hbel⟩⟩
end Go.Proofs.Ytmcmkdpidppcaaa.St
