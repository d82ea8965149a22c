/- A pool of string: New, Free, Take, has, Get (turned out of the texts for whole numbers by gkind.py). -/
import Derived.Test.YtmcmkdpidppcaaaPoolD
namespace Go.Proofs.Ytmcmkdpidppcaaa.Ss
open Go.Proofs Go.RowKit Go.Proofs.YtmcmkdpidppcaaaW.PrintWords Go.Proofs.YtmcmkdpidppcaaaW.PrintLast Go.Proofs.YtmcmkdpidppcaaaW.PrintMore Go.Proofs.Ytmcmkdpidppcaaa.St
def slotCells (S : List (Bool × ByteArray)) : List Value := S.flatMap fun s => [.bool s.1, .string s.2]
theorem slotCells_len (S : List (Bool × ByteArray)) : (slotCells S).length = S.length * 2 := by
  induction S with
  | nil => rfl
  | cons s S ih => show (([_, _] : List Value) ++ slotCells S).length = _; rw [List.length_append, ih, List.length_cons]; simp only [List.length_cons, List.length_nil]; omega
/-- A pool that lies at b: its places, and the free ones. -/
structure PoolAt (n0 : Nat) (w : World) (b : Nat) (vs vf : Value) (S : List (Bool × ByteArray)) (F : List Int) : Prop where
  hb : n0 ≤ b
  blk : w.heap[b]? = some (.cells #[vs, vf] 74 (0, 0))
  slots : w.ownsRow n0 81 2 vs S.length (slotCells S)
  free : w.ownsRow n0 3 1 vf F.length (F.map (Value.int .i64))
  d1 : vs.ownBlock ≠ some b
  d2 : vf.ownBlock ≠ some b
  d3 : ∀ k, vs.ownBlock = some k → vf.ownBlock ≠ some k
section
variable {n0 : Nat} {w : World} {b : Nat} {vs vf : Value} {S : List (Bool × ByteArray)} {F : List Int}
theorem PoolAt.lt (h : PoolAt n0 w b vs vf S F) : b < w.heap.size := (Array.getElem?_eq_some_iff.1 h.blk).1
theorem PoolAt.cell0 (h : PoolAt n0 w b vs vf S F) : w.cell? ⟨b, 0, none⟩ = some vs := by rw [cell_of_row w b 0 _ _ (0, 0) h.blk]; rfl
theorem PoolAt.cell1 (h : PoolAt n0 w b vs vf S F) : w.cell? ⟨b, 1, none⟩ = some vf := by rw [cell_of_row w b 1 _ _ (0, 0) h.blk]; rfl
theorem PoolAt.frozen (h : PoolAt n0 w b vs vf S F) (j : Nat) : w.frozen? ⟨b, j, none⟩ = false := by
  unfold World.frozen?
  rw [h.blk]
  simp
theorem PoolAt.kept {w' : World} (h : PoolAt n0 w b vs vf S F) (hB : Below w.heap.size w w') : PoolAt n0 w' b vs vf S F := by
  have hg : w.grownBy w' none := ⟨hB.os, hB.tape, hB.output, hB.size, fun k hk _ => hB.block k hk⟩
  refine ⟨h.hb, (hB.block b h.lt).trans h.blk, h.slots.kept hg ?_, h.free.kept hg ?_, h.d1, h.d2, h.d3⟩
  · cases vs.ownBlock <;> simp
  · cases vf.ownBlock <;> simp
theorem PoolAt.grew {w1 : World} (h : PoolAt n0 w b vs vf S F) (hg : w.grownBy w1 vf.ownBlock) : w1.heap[b]? = some (.cells #[vs, vf] 74 (0, 0)) ∧ w1.ownsRow n0 81 2 vs S.length (slotCells S) := by
  refine ⟨(hg.block b h.lt (Ne.symm h.d2)).trans h.blk, h.slots.kept hg ?_⟩
  cases e : vs.ownBlock with
  | none => exact .inl rfl
  | some k => exact .inr (fun e2 => h.d3 k e e2.symm)
/-- The free places are others. -/
theorem PoolAt.setFree {w1 : World} {F' : List Int} {vf' : Value} (h : PoolAt n0 w b vs vf S F) (hg : w.grownBy w1 vf.ownBlock) (hown : w1.ownsRow n0 3 1 vf' F'.length (F'.map (Value.int .i64)))
    (hat : vf'.ownBlock = vf.ownBlock ∨ ∀ k, vf'.ownBlock = some k → w.heap.size ≤ k) : PoolAt n0 (w1.setCell ⟨b, 1, none⟩ vf') b vs vf' S F' := by
  obtain ⟨h1, h2⟩ := h.grew hg
  have d2' : vf'.ownBlock ≠ some b := by
    rcases hat with e | e
    · rw [e]; exact h.d2
    · intro e2; have := e b e2; have := h.lt; omega
  have d3' : ∀ k, vs.ownBlock = some k → vf'.ownBlock ≠ some k := by
    intro k hk
    rcases hat with e | e
    · rw [e]; exact h.d3 k hk
    · intro e2; have := e k e2; have := (h.slots.lt k hk).2; omega
  refine ⟨h.hb, ?_, set_other h2 b 1 _ h.d1, set_other hown b 1 _ d2', h.d1, d2', d3'⟩
  unfold World.setCell
  simp only [Array.getElem?_modify, if_true, h1, Option.map_some]
  rfl
end
theorem mk_slots (n : Nat) (hn : 1 ≤ n ∧ n ≤ 65536) : ∀ W : World, (Instr.makeSlice 72 (.int .i64 (n : Int)) (.int .i64 (n : Int))).run Try.prog W = .ok (.slice (some ⟨W.heap.size, 0, none⟩) n n) (W.alloc (.cells (madeCells #[.bool false, .string ByteArray.empty] (n * 2)) 81)) := by
  intro W
  have hinfo : (Try.prog.info? 81).map (fun i => (i.zero, i.size, i.bytes)) = some (some (.agg #[.bool false, .string ByteArray.empty]), 2, 24) := by kernel_rfl
  obtain ⟨i0, hi, hz0, hz1, hz2⟩ := info_parts hinfo
  have h := run_make W 72 81 i0 _ Try.underlying72 hi hz0 .i64 .i64 (n : Int) (n : Int) (by omega) (Int.le_refl _) (by rw [hz2]; omega) (by omega)
  rw [hz1, Int.toNat_natCast] at h
  exact h
theorem slots_made (n : Nat) : (madeCells #[.bool false, .string ByteArray.empty] (n * 2)).toList = slotCells (List.replicate n (false, ByteArray.empty)) := by
  apply List.ext_getElem?
  intro i
  induction n generalizing i with
  | zero => simp [madeCells, slotCells]
  | succ n ih =>
    have e : slotCells (List.replicate (n + 1) (false, ByteArray.empty)) = (.bool false : Value) :: .string ByteArray.empty :: slotCells (List.replicate n (false, ByteArray.empty)) := rfl
    rw [e]
    have g : ∀ (m j : Nat), (madeCells #[Value.bool false, .string ByteArray.empty] m).toList[j]? = if j < m then #[Value.bool false, .string ByteArray.empty][j % 2]? else none := by
      intro m j
      rw [Array.getElem?_toList]
      by_cases c : j < m
      · rw [if_pos c]
        simp [madeCells, c]
        have hj : j % 2 = 0 ∨ j % 2 = 1 := by omega
        rcases hj with e | e <;> simp [e]
      · rw [if_neg c]
        exact Array.getElem?_eq_none (by rw [size_madeCells]; omega)
    rw [g]
    match i with
    | 0 => simp
    | 1 => rw [if_pos (by omega)]; rfl
    | i + 2 =>
      rw [List.getElem?_cons_succ, List.getElem?_cons_succ, ← ih i, g]
      by_cases c : i < n * 2
      · rw [if_pos c, if_pos (by omega), Nat.add_mod_right]
      · rw [if_neg c, if_neg (by omega)]
theorem PoolAt.made (w : World) (n : Nat) (hn : 1 ≤ n ∧ n ≤ 65536) : PoolAt w.heap.size ((w.alloc (.cells (madeCells #[.bool false, .string ByteArray.empty] (n * 2)) 81)).alloc (.cells #[.slice (some ⟨w.heap.size, 0, none⟩) n n, .slice none 0 0] 74)) (w.heap.size + 1) (.slice (some ⟨w.heap.size, 0, none⟩) n n) (.slice none 0 0) (List.replicate n (false, ByteArray.empty)) [] := by
  have hs : (w.alloc (.cells (madeCells #[.bool false, .string ByteArray.empty] (n * 2)) 81)).heap.size = w.heap.size + 1 := World.size_alloc _ _
  have h0 := World.ownsRow_lit (base := w.heap.size) (e := 81) (size := 2) w (madeCells #[.bool false, .string ByteArray.empty] (n * 2)) n (Nat.le_refl _) (by unfold maxLen; omega) (size_madeCells _ _)
  rw [slots_made] at h0
  refine ⟨by omega, ?_, ?_, World.ownsRow_nil _ _ _ _, ?_, ?_, ?_⟩
  · have h := heap_alloc_new (w.alloc (.cells (madeCells #[.bool false, .string ByteArray.empty] (n * 2)) 81)) (.cells #[.slice (some ⟨w.heap.size, 0, none⟩) n n, .slice none 0 0] 74)
    rw [hs] at h
    exact h
  · rw [List.length_replicate]
    exact h0.alloc _
  · simp [Value.ownBlock]
  · simp [Value.ownBlock]
  · intro k _
    simp [Value.ownBlock]
set_option maxRecDepth 100000 in
set_option maxHeartbeats 2000000 in
theorem new_calls (n : Nat) (hn : 1 ≤ n ∧ n ≤ 65536) (w : World) : Calls Try.prog 9 #[.int .i64 (n : Int)] w fun e w' => ∃ b vs vf, e = .returned (.tuple #[.pointer (some ⟨b, 0, none⟩), .int .i64 0]) ∧ PoolAt w.heap.size w' b vs vf (List.replicate n (false, ByteArray.empty)) (fallTo n 0) ∧ Below w.heap.size w w' := by
  obtain ⟨i0, hi, hz0, hz1, hz2⟩ := info_parts Try.infoI
  have HN := Go.Lib.hid hn
  have mk := mk_slots n hn
  have h1 : decide ((n : Int) < 1) = false := decide_eq_false (by omega)
  have h2 : decide (65536 < (n : Int)) = false := decide_eq_false (by omega)
  have S0 := Aside0.mk (PoolAt.made w n hn)
  have B0 : Aside0 (Below w.heap.size w ((w.alloc (.cells (madeCells #[.bool false, .string ByteArray.empty] (n * 2)) 81)).alloc (.cells #[.slice (some ⟨w.heap.size, 0, none⟩) n n, .slice none 0 0] 74))) := ⟨below_alloc (below_alloc (Below.refl _ w) _) _⟩
  clear hn
  go_enter Try.func9, Try.ntmps9
  go_wp2
  obtain ⟨vs, hvs⟩ : ∃ v, v = Value.slice (some ⟨w.heap.size, 0, none⟩) n n := ⟨_, rfl⟩
  obtain ⟨b, hb⟩ : ∃ b, b = w.heap.size + 1 := ⟨_, rfl⟩
  rw [← hb, ← hvs] at S0
  rw [← hvs] at B0
  rw [← hvs]
  simp only [← hb]
  generalize (w.alloc (.cells (madeCells #[.bool false, .string ByteArray.empty] (n * 2)) 81)).alloc (.cells #[vs, .slice none 0 0] 74) = W0 at S0 B0 ⊢
  clear mk h1 h2 hb hvs
  have e0 : fallTo n n = [] := by unfold fallTo; rw [Nat.sub_self]; rfl
  have S1 : Aside0 (PoolAt w.heap.size W0 b vs (.slice none 0 0) (List.replicate n (false, ByteArray.empty)) (fallTo n n)) := ⟨by rw [e0]; exact S0.out⟩
  clear e0
  clear S0
  go_loopg [5] n (fun kx s5 wr => ∃ (i : Nat) (x : Int) (vf : Value), s5 = .int .i64 x ∧ x = (i : Int) - 1 ∧ i ≤ n ∧ i ≤ kx ∧ Aside0 (PoolAt w.heap.size wr b vs vf (List.replicate n (false, ByteArray.empty)) (fallTo n i)) ∧ Aside0 (Below w.heap.size w wr))
  case atStart => exact ⟨n, _, _, rfl, by have := HN.out; unfold wrap64; omega, Nat.le_refl _, Nat.le_refl _, S1, B0⟩
  case round =>
    clear S1 B0
    obtain ⟨i, x, vf, rfl, hx, hin, hik, S1, B1⟩ := hrel
    cases i with
    | zero =>
      have hx0 : decide (0 ≤ x) = false := decide_eq_false (by omega)
      clear hx
      go_wp2
      go_ret2
      exact ⟨b, vs, vf, rfl, S1.out, B1.out⟩
    | succ j =>
      obtain rfl : x = (j : Int) := by omega
      have hx0 : decide (0 ≤ (j : Int)) = true := decide_eq_true (by omega)
      have hc := S1.out.cell1
      have hf := S1.out.frozen 1
      have hlb := S1.out.lt
      have d2 := S1.out.d2
      have hown := S1.out.free
      have hfl := Go.Lib.hid (fallTo_len n (j + 1))
      have hnn := HN.out
      have hsz := B1.out.size
      have hg0 : ∀ w1, (wr.alloc (.cells #[.int .i64 (j : Int)] 3)).grownBy w1 vf.ownBlock → wr.grownBy w1 vf.ownBlock := fun w1 hg => grown_of (k := 0) hg
      have HF : Aside0 (PoolAt w.heap.size wr b vs vf (List.replicate n (false, ByteArray.empty)) (fallTo n (j + 1)) ∧ Below w.heap.size w wr) := ⟨S1.out, B1.out⟩
      clear S1 B1 hx hnn hsz
      go_wp2_with (at_builtin; refine wpList_append_lies _ rfl _ _ _ rfl w.heap.size 3 i0 _ 1 8 Try.underlying44 hi hz0 hz1 hz2 rfl (by omega) vf (fallTo n (j + 1)).length _ rfl (hown.alloc _) ⟨wr.heap.size, 0, none⟩ 1 1 [.int .i64 (j : Int)] rfl rfl (World.news_of_block (cs := #[.int .i64 (j : Int)]) (t := 3) (fr := (0, 0)) (heap_alloc_new wr _)) (by simp [Value.oneCell']) (by omega) (by have := HN.out; have := hfl.out; unfold maxLen; omega) (by have := HN.out; have := hfl.out; omega) (by have := HF.out.2.size; simp; omega) (wr.heap.size + 1) (by simp) ?_; intro gg cap w1 hown1 hgrow hat hlt; have hg1 := hg0 w1 hgrow; have hc1 : w1.cell? ⟨b, 1, none⟩ = some vf := hg1.cell hc (Ne.symm d2); have hf1 : w1.frozen? ⟨b, 1, none⟩ = false := (World.frozen?_of_block (hg1.block b hlb (Ne.symm d2))).trans hf)
      have hnew : PoolAt w.heap.size (w1.setCell ⟨b, 1, none⟩ (.slice (some ⟨gg, 0, none⟩) ((fallTo n (j + 1)).length + 1) cap)) b vs (.slice (some ⟨gg, 0, none⟩) ((fallTo n (j + 1)).length + 1) cap) (List.replicate n (false, ByteArray.empty)) (fallTo n j) := by
        refine HF.out.1.setFree hg1 ?_ ?_
        · rw [fallTo_succ n j (by omega), List.length_append, List.map_append]
          exact hown1
        · rcases hat with e | e
          · exact .inl e.symm
          · refine .inr fun k hk => ?_
            have hk2 : gg = k := by injection hk
            omega
      have hbel : Below w.heap.size w (w1.setCell ⟨b, 1, none⟩ (.slice (some ⟨gg, 0, none⟩) ((fallTo n (j + 1)).length + 1) cap)) := by
        have hrow : ∀ k, vf.ownBlock = some k → w.heap.size ≤ k := fun k hk => (hown.lt k hk).1
        exact (HF.out.2.grown hg1 (by have := HF.out.2.size; omega) hrow).setCell (by have := HF.out.1.hb; exact this) _
      go_roundg j
      case measure => omega
      case rel => exact ⟨j, _, _, rfl, by have := HN.out; unfold wrap64; omega, by omega, Nat.le_refl _, ⟨hnew⟩, ⟨hbel⟩⟩
theorem slotCells_get (S : List (Bool × ByteArray)) (i : Nat) (h : i < S.length) : (slotCells S)[i * 2]? = some (.bool (S.getD i (false, ByteArray.empty)).1) ∧ (slotCells S)[i * 2 + 1]? = some (.string (S.getD i (false, ByteArray.empty)).2) := by
  induction S generalizing i with
  | nil => simp at h
  | cons s S ih =>
    have e : slotCells (s :: S) = .bool s.1 :: .string s.2 :: slotCells S := rfl
    rw [e]
    cases i with
    | zero => exact ⟨rfl, rfl⟩
    | succ i =>
      have := ih i (by simpa using h)
      rw [show (i + 1) * 2 = i * 2 + 2 by omega]
      exact this
theorem slotCells_set (S : List (Bool × ByteArray)) (i : Nat) (s : Bool × ByteArray) : slotCells (S.set i s) = (((slotCells S).set (i * 2) (.bool s.1)).set (i * 2 + 1) (.string s.2)) := by
  induction S generalizing i with
  | nil => rfl
  | cons t S ih =>
    cases i with
    | zero => rfl
    | succ i =>
      show (.bool t.1 :: .string t.2 :: slotCells (S.set i s)) = _
      rw [ih i, show (i + 1) * 2 = i * 2 + 2 by omega]
      rfl
section
variable {n0 : Nat} {w : World} {b : Nat} {vs vf : Value} {S : List (Bool × ByteArray)} {F : List Int}
theorem PoolAt.slot (h : PoolAt n0 w b vs vf S F) (i : Nat) (hi : i < S.length) : ∃ g cap, vs = .slice (some ⟨g, 0, none⟩) S.length cap ∧ n0 ≤ g ∧ w.cell? ⟨g, i * 2, none⟩ = some (.bool (S.getD i (false, ByteArray.empty)).1) ∧ w.cell? ⟨g, i * 2 + 1, none⟩ = some (.string (S.getD i (false, ByteArray.empty)).2) := by
  obtain ⟨g, cap, rfl, hb, _⟩ := own_some h.slots (by omega)
  obtain ⟨c0, c1⟩ := slotCells_get S i hi
  exact ⟨g, cap, rfl, hb, own_cell h.slots _ _ c0, own_cell h.slots _ _ c1⟩
theorem PoolAt.setSlot {g cap : Nat} (h : PoolAt n0 w b (.slice (some ⟨g, 0, none⟩) S.length cap) vf S F) (i : Nat) (s : Bool × ByteArray) : PoolAt n0 (w.setCells g (i * 2) [.bool s.1, .string s.2]) b (.slice (some ⟨g, 0, none⟩) S.length cap) vf (S.set i s) F := by
  obtain ⟨h0, _⟩ := h.slots.stored (i * 2) (.bool s.1)
  obtain ⟨h1, _⟩ := h0.stored (i * 2 + 1) (.string s.2)
  have hgb : g ≠ b := fun e => h.d1 (by show some g = some b; exact congrArg some e)
  have e : w.setCells g (i * 2) [.bool s.1, .string s.2] = (w.setCell ⟨g, i * 2, none⟩ (.bool s.1)).setCell ⟨g, i * 2 + 1, none⟩ (.string s.2) := rfl
  rw [e]
  refine ⟨h.hb, ?_, ?_, (set_other (set_other h.free g _ _ (h.d3 g rfl)) g _ _ (h.d3 g rfl)), h.d1, h.d2, h.d3⟩
  · rw [Below.heap_setCell _ ⟨g, i * 2 + 1, none⟩ _ b (Ne.symm hgb), Below.heap_setCell _ ⟨g, i * 2, none⟩ _ b (Ne.symm hgb)]
    exact h.blk
  · rw [List.length_set, slotCells_set]
    exact h1
end
theorem PoolAt.drewI {n0 : Nat} {w : World} {b : Nat} {vs vf : Value} {S : List (Bool × ByteArray)} {F : List Int} (h : PoolAt n0 w b vs vf S F) : PoolAt n0 w.drew b vs vf S F := ⟨h.hb, h.blk, h.slots, h.free, h.d1, h.d2, h.d3⟩
theorem below_drewI {n0 : Nat} {w W : World} (h : Below n0 w W) : Below n0 w W.drew := h.drew
theorem eqp (a : Addr) (w : World) : (binOp .eql 23 (.pointer (some a)) (.pointer none)).run Try.prog w = .ok (.bool false) w := by kernel_rfl
theorem nep (a : Addr) (w : World) : (binOp .neq 23 (.pointer (some a)) (.pointer none)).run Try.prog w = .ok (.bool true) w := by kernel_rfl
set_option maxRecDepth 100000 in
theorem free_calls {n0 : Nat} {w : World} {b : Nat} {vs vf : Value} {S : List (Bool × ByteArray)} {F : List Int} (h : PoolAt n0 w b vs vf S F) : Calls Try.prog 30 #[.pointer (some ⟨b, 0, none⟩)] w fun e w' => e = .returned (.int .i64 (F.length : Int)) ∧ w' = w := by
  obtain ⟨a, cap, rfl⟩ := own_form h.free
  have hc := h.cell1
  have eq := eqp ⟨b, 0, none⟩
  clear h
  go_enter Try.func30, Try.ntmps30
  go_wp2
  go_ret
  exact ⟨rfl, rfl⟩
set_option maxRecDepth 100000 in
set_option maxHeartbeats 4000000 in
theorem take_calls {n0 : Nat} {w : World} {b : Nat} {vs vf : Value} {S : List (Bool × ByteArray)} {F : List Int} {i : Nat} (h : PoolAt n0 w b vs vf S (F ++ [(i : Int)])) (hi : i < S.length) (hF : F.length < 65536) (v : ByteArray) : Calls Try.prog 13 #[.pointer (some ⟨b, 0, none⟩), .string v] w fun e w' => ∃ vf', e = .returned (.tuple #[.int .i64 (i : Int), .int .i64 0]) ∧ PoolAt n0 w' b vs vf' (S.set i (true, v)) F ∧ Kept w w' (Foot b vs vf) ∧ vf'.ownBlock = vf.ownBlock ∧ Below n0 w w' := by
  have hfree := free_calls h
  have hlen : (F ++ [(i : Int)]).length = F.length + 1 := by rw [List.length_append, List.length_singleton]
  have hown := h.free
  rw [hlen, List.map_append] at hown
  obtain ⟨g, cap, rfl, hbg, _⟩ := own_some hown (by omega)
  obtain ⟨gs, caps, rfl, hbs, k0, k1⟩ := h.slot i hi
  have hcF : w.cell? ⟨g, F.length, none⟩ = some (.int .i64 (i : Int)) := own_cell hown _ _ (by rw [List.getElem?_append_right (by simp)]; simp)
  have h2 : PoolAt n0 (w.setCell ⟨b, 1, none⟩ (.slice (some ⟨g, 0, none⟩) F.length cap)) b (.slice (some ⟨gs, 0, none⟩) S.length caps) (.slice (some ⟨g, 0, none⟩) F.length cap) S F := h.setFree ⟨rfl, rfl, rfl, Nat.le_refl _, fun _ _ _ => rfl⟩ (own_shrink hown) (.inl rfl)
  have h3 := Aside0.mk (h2.setSlot i (true, v))
  have HBLK := Aside0.mk (And.intro h2.blk (show b ≠ gs from fun e => h.d1 (by show some gs = some b; exact congrArg some e.symm)))
  have c0 := h.cell0
  have c1 := h.cell1
  have f1 := h.frozen 1
  have fs0 := own_frozen h.slots (i * 2)
  have fs1 := own_frozen h.slots (i * 2 + 1)
  obtain ⟨q0, q1⟩ := slotCells_get S i hi
  have t0 := h2.slots
  have g0 := own_cell t0 (i * 2) _ (by exact q0)
  have t1 := (t0.stored (i * 2) (.bool true)).1
  have g1 := own_cell t1 (i * 2 + 1) _ (by rw [List.getElem?_set_ne (by omega)]; exact q1)
  clear q0 q1 t0 t1
  have d0 := h2.cell0
  have hB : Aside0 (Below n0 w ((w.setCell ⟨b, 1, none⟩ (.slice (some ⟨g, 0, none⟩) F.length cap)).setCells gs (i * 2) [.bool true, .string v])) := ⟨((((Below.refl n0 w).setCell (p := ⟨b, 1, none⟩) h.hb _).setCell (p := ⟨gs, i * 2, none⟩) hbs _).setCell (p := ⟨gs, i * 2 + 1, none⟩) hbs _)⟩
  have hK : Aside0 (Kept w ((w.setCell ⟨b, 1, none⟩ (.slice (some ⟨g, 0, none⟩) F.length cap)).setCells gs (i * 2) [.bool true, .string v]) (Foot b (.slice (some ⟨gs, 0, none⟩) S.length caps) (.slice (some ⟨g, 0, none⟩) (F.length + 1) cap))) := ⟨((((Kept.refl w _).setCell (p := ⟨b, 1, none⟩) (.inl (.inl rfl)) _).setCell (p := ⟨gs, i * 2, none⟩) (.inl (.inr (.inl rfl))) _).setCell (p := ⟨gs, i * 2 + 1, none⟩) (.inl (.inr (.inl rfl))) _)⟩
  have hcap : F.length ≤ cap := by have := Go.Proofs.Ytmcmkdpidppcaaa.St.own_cap hown; omega
  have z1 : (((F.length + 1 : Nat) : Int) == 0) = false := beq_eq_false_iff_ne.2 (by omega)
  have z2 : wrap64 (((F.length + 1 : Nat) : Int) - 1) = (F.length : Int) := by unfold wrap64; omega
  rw [hlen] at hfree
  clear h h2 hown k0 k1
  go_enter Try.func13, Try.ntmps13
  go_wp2_with (go_at_call 30; refine hfree.mono ?_; rintro e w' ⟨rfl, rfl⟩)
  go_ret2
  exact ⟨_, rfl, h3.out, hK.out, rfl, hB.out⟩
set_option maxRecDepth 100000 in
theorem has_calls {n0 : Nat} {w : World} {b : Nat} {vs vf : Value} {S : List (Bool × ByteArray)} {F : List Int} (h : PoolAt n0 w b vs vf S F) (i : Nat) (hi : i < S.length) : Calls Try.prog 32 #[.pointer (some ⟨b, 0, none⟩), .int .i64 (i : Int)] w fun e w' => e = .returned (.bool (S.getD i (false, ByteArray.empty)).1) ∧ w' = w := by
  obtain ⟨gs, caps, rfl, hbs, k0, k1⟩ := h.slot i hi
  have c0 := h.cell0
  have ne := nep ⟨b, 0, none⟩
  have z1 : decide (0 ≤ (i : Int)) = true := decide_eq_true (by omega)
  have z2 : decide ((i : Int) < (S.length : Int)) = true := decide_eq_true (by omega)
  clear h
  obtain ⟨t, ht⟩ : ∃ t, t = (S.getD i (false, ByteArray.empty)).1 := ⟨_, rfl⟩
  rw [← ht] at k0 ⊢
  clear ht k1
  go_enter Try.func32, Try.ntmps32
  go_wp2
  go_ret
  exact ⟨rfl, rfl⟩
set_option maxRecDepth 100000 in
theorem get_calls {n0 : Nat} {w : World} {b : Nat} {vs vf : Value} {S : List (Bool × ByteArray)} {F : List Int} (h : PoolAt n0 w b vs vf S F) (i : Nat) (hi : i < S.length) (x : ByteArray) (ht : S[i]? = some (true, x)) : Calls Try.prog 15 #[.pointer (some ⟨b, 0, none⟩), .int .i64 (i : Int)] w fun e w' => e = .returned (.tuple #[.string x, .bool true]) ∧ w' = w := by
  have hB0 := Aside0.mk (Below.refl w.heap.size w)
  have h := h.kept hB0.out
  have hh := has_calls h i hi
  have hx : (S.getD i (false, ByteArray.empty)) = (true, x) := by rw [List.getD_eq_getElem?_getD, ht]; rfl
  rw [hx] at hh
  obtain ⟨gs, caps, rfl, hbs, k0, k1⟩ := h.slot i hi
  rw [hx] at k0 k1
  have c0 := h.cell0
  have z2 : (i : Int) < (S.length : Int) := by omega
  clear h hx ht k0
  go_enter Try.func15, Try.ntmps15
  go_wp2_with (go_at_call 32; refine hh.mono ?_; rintro e w' ⟨rfl, rfl⟩)
  go_ret2
  exact ⟨rfl, rfl⟩
set_option maxRecDepth 100000 in
theorem get_none {n0 : Nat} {w : World} {b : Nat} {vs vf : Value} {S : List (Bool × ByteArray)} {F : List Int} (h : PoolAt n0 w b vs vf S F) (i : Nat) (ht : S.length ≤ i ∨ (S.getD i (false, ByteArray.empty)).1 = false) : Calls Try.prog 15 #[.pointer (some ⟨b, 0, none⟩), .int .i64 (i : Int)] w fun e w' => e = .returned (.tuple #[.string ByteArray.empty, .bool false]) ∧ w' = w := by
  have hB0 := Aside0.mk (Below.refl w.heap.size w)
  have h := h.kept hB0.out
  have hh : Calls Try.prog 32 #[.pointer (some ⟨b, 0, none⟩), .int .i64 (i : Int)] w fun e w' => e = .returned (.bool false) ∧ w' = w := by
    by_cases c : i < S.length
    · have hf := has_calls h i c
      rw [ht.resolve_left (by omega)] at hf
      exact hf
    · obtain ⟨a, cap, rfl⟩ := own_form h.slots
      have k0 := h.cell0
      have ne := nep ⟨b, 0, none⟩
      have z1 : decide (0 ≤ (i : Int)) = true := decide_eq_true (by omega)
      have z2 : decide ((i : Int) < (S.length : Int)) = false := decide_eq_false (by omega)
      have z3 : decide (i < S.length) = false := decide_eq_false c
      clear h ht c
      go_enter Try.func32, Try.ntmps32
      go_wp2
      go_ret
      exact ⟨rfl, rfl⟩
  clear h ht
  go_enter Try.func15, Try.ntmps15
  go_wp2_with (go_at_call 32; refine hh.mono ?_; rintro e w' ⟨rfl, rfl⟩)
  go_ret2
  exact ⟨rfl, rfl⟩
theorem PoolAt.keptS {n0 : Nat} {w w' : World} {b : Nat} {vs vf : Value} {S : List (Bool × ByteArray)} {F : List Int} {P : Nat → Prop} (h : PoolAt n0 w b vs vf S F) (hk : Kept w w' P) (hP : ∀ k, Foot b vs vf k → ¬ P k) : PoolAt n0 w' b vs vf S F :=
  ⟨h.hb, (hk.2 b h.lt (hP b (.inl rfl))).trans h.blk, own_move h.slots (fun k e => hk.2 k (h.slots.lt k e).2 (hP k (.inr (.inl e)))), own_move h.free (fun k e => hk.2 k (h.free.lt k e).2 (hP k (.inr (.inr e)))), h.d1, h.d2, h.d3⟩
theorem PoolAt.foot {n0 : Nat} {w : World} {b : Nat} {vs vf : Value} {S : List (Bool × ByteArray)} {F : List Int} (h : PoolAt n0 w b vs vf S F) (k : Nat) (hk : Foot b vs vf k) : n0 ≤ k ∧ k < w.heap.size := by
  rcases hk with rfl | hk | hk
  · exact ⟨h.hb, h.lt⟩
  · exact h.slots.lt k hk
  · exact h.free.lt k hk
theorem PoolAt.lower {n0 n1 : Nat} {w : World} {b : Nat} {vs vf : Value} {S : List (Bool × ByteArray)} {F : List Int} (h : PoolAt n0 w b vs vf S F) (hn : n1 ≤ n0) : PoolAt n1 w b vs vf S F :=
  ⟨by have := h.hb; omega, h.blk, own_weaken h.slots hn, own_weaken h.free hn, h.d1, h.d2, h.d3⟩
set_option maxRecDepth 100000 in
/-- New with places out of range. -/
theorem new_no (n : Int) (hn : n < 1 ∨ 65536 < n) (w : World) : Calls Try.prog 9 #[.int .i64 n] w fun e w' => e = .returned (.tuple #[.pointer none, .int .i64 1]) ∧ w' = w := by
  by_cases c : n < 1
  · have h1 : decide (n < 1) = true := decide_eq_true c
    clear hn c
    go_enter Try.func9, Try.ntmps9
    go_wp2
    go_ret2
    exact ⟨rfl, rfl⟩
  · have h1 : decide (n < 1) = false := decide_eq_false c
    have h2 : decide (65536 < n) = true := decide_eq_true (by omega)
    clear hn c
    go_enter Try.func9, Try.ntmps9
    go_wp2
    go_ret2
    exact ⟨rfl, rfl⟩
end Go.Proofs.Ytmcmkdpidppcaaa.Ss
