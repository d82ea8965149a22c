/- slices.Insert of one pointer among the elements of a queue. -/
import Derived.Test.YtgolghimefageaaQWA
namespace Go.Proofs.Ytgolghimefageaa.QW
open Go.Proofs Go.RowKit Go.Shelf Go.Lib Go.Maps Go.Proofs.YtgolghimefageaaW.PrintWords Go.Proofs.YtgolghimefageaaW.PrintLast Go.Proofs.YtgolghimefageaaW.PrintMore Go.Proofs.Ytgolghimefageaa.St
set_option linter.unusedVariables false
theorem infoP : (Try.prog.info? 100).map (fun i => (i.zero, i.size, i.bytes)) = some (some (.pointer none), 1, 8) := by kernel_rfl
section
variable {n0 : Nat} {w : World} {n i vb : Nat} {vl x : Value} {cs : List Value}
set_option maxRecDepth 100000 in
set_option maxHeartbeats 2000000 in
/-- At the end. -/
theorem insert_end (hown : w.ownsRow n0 100 1 vl n cs) (hn0 : n0 ≤ w.heap.size) (hn : n ≤ 65536) (hv : w.heap[vb]? = some (.cells #[x] 100 (0, 0))) (h1 : x.oneCell' = true) :
    Calls Try.prog 58 #[vl, .int .i64 (n : Int), .slice (some ⟨vb, 0, none⟩) 1 1] w fun e w' => ∃ v', e = .returned v' ∧ w'.ownsRow n0 100 1 v' (n + 1) (cs ++ [x]) ∧ w.grownBy w' vl.ownBlock ∧ (v'.ownBlock = vl.ownBlock ∨ ∀ k, v'.ownBlock = some k → w.heap.size ≤ k) := by
  obtain ⟨i0, hi, hz0, hz1, hz2⟩ := info_parts infoP
  obtain ⟨va, vc, rfl⟩ := own_form hown
  have HN := Go.Lib.hid (And.intro hn0 hn)
  have H1 := Aside0.mk h1
  have HO := Aside0.mk hown
  have HW := Aside0.mk (World.news_of_block hv)
  have hvc : n ≤ vc := by
    rcases hown.2 with ⟨e, rfl⟩ | ⟨g, cap, cur, e, _, _, hc, _⟩
    · omega
    · injection e with _ _ e; omega
  have hz : (0 : Int) ≤ (n : Int) := by omega
  have hf : ∀ b : Addr, va = some b → b.off = 0 := by
    intro b hb
    rcases hown.2 with ⟨e, rfl⟩ | ⟨g, cap, cur, e, _⟩
    · injection e with e1; rw [e1] at hb; cases hb
    · injection e with e1; rw [e1] at hb; cases hb; rfl
  clear hn0 hn h1 hv
  rcases hown.2 with ⟨e, rfl⟩ | ⟨g, cap, cur, e, _, _, _, hcm, _⟩
  · cases e
    clear hown hf hvc
    go_enter Try.func58, Try.ntmps58
    go_wp2_with (at_builtin; refine wpList_append_lies _ rfl _ _ _ rfl n0 100 i0 _ 1 8 Try.underlying97 hi hz0 hz1 hz2 rfl (by omega) (.slice none 0 0) 0 cs rfl HO.out ⟨vb, 0, none⟩ 1 1 [x] rfl rfl HW.out (by intro u hu; cases List.mem_singleton.1 hu; exact H1.out) (by omega) (by unfold maxLen; omega) (by omega) HN.out.1 w.heap.size rfl ?_; intro gg cap w1 hown1 hgrow hat hlt)
    go_ret
    refine ⟨_, rfl, hown1, hgrow, .inr ?_⟩
    rcases hat with e | e
    · cases e
    · intro k hk
      have hk2 : gg = k := by injection hk
      omega
  · cases e
    have hcm2 : vc ≤ 9223372036854775807 := by unfold maxLen at hcm; exact hcm
    clear hown hf hcm
    go_enter Try.func58, Try.ntmps58
    go_wp2_with (at_builtin; refine wpList_append_lies _ rfl _ _ _ rfl n0 100 i0 _ 1 8 Try.underlying97 hi hz0 hz1 hz2 rfl (by omega) (.slice (some ⟨g, 0, none⟩) n vc) n cs rfl HO.out ⟨vb, 0, none⟩ 1 1 [x] rfl rfl HW.out (by intro u hu; cases List.mem_singleton.1 hu; exact H1.out) (by omega) (by have := HN.out.2; unfold maxLen; omega) (by have := HN.out.2; omega) HN.out.1 w.heap.size rfl ?_; intro gg cap w1 hown1 hgrow hat hlt)
    all_goals
      go_ret
      refine ⟨_, rfl, hown1, hgrow, ?_⟩
      rcases hat with e | e
      · exact .inl e.symm
      · refine .inr fun k hk => ?_
        have hk2 : gg = k := by injection hk
        omega
theorem overlaps_no {g la ca lb cb b off voff : Nat} (tA tB : TypeId) (kA kB : Nat) (hvb : g ≠ b) (hsa : w.shape? g = some (tA, kA)) (hsb : w.shape? b = some (tB, kB)) (hkB : kB ≠ 0) (hfa : w.frozen? ⟨g, voff, none⟩ = false) (hfe : w.frozen? ⟨g, kA, none⟩ = false) :
    (callFunc 73 #[.slice (some ⟨g, voff, none⟩) la ca, .slice (some ⟨b, off, none⟩) lb cb]).run Try.prog w = .ok (.value (.bool false)) w := by
  rw [run_callFunc_extern Try.func73 (by kernel_rfl) (by kernel_rfl) (by kernel_rfl) (e := Extern.SlicesOverlaps.overlaps #[97, 97] #[4]) (by kernel_rfl),
    Lib.run_overlaps_apart w 97 4 100 Try.underlying97 1 (fun w => by kernel_rfl) ⟨g, voff, none⟩ ⟨b, off, none⟩ la ca lb cb hvb tA tB kA kB hsa hsb hkB hfa hfe]
  rfl
set_option maxRecDepth 100000 in
set_option maxHeartbeats 4000000 in
/-- Ahead of the end, where there is room. -/
theorem insert_shift {g cap : Nat} (hown : w.ownsRow n0 100 1 (.slice (some ⟨g, 0, none⟩) n cap) n cs) (hi : i < n) (hroom : n + 1 ≤ cap) (hvb : vb ≠ g) (hv : w.heap[vb]? = some (.cells #[x] 100 (0, 0))) (h1 : x.oneCell' = true) (h1c : ∀ v ∈ cs, v.oneCell' = true) :
    Calls Try.prog 58 #[.slice (some ⟨g, 0, none⟩) n cap, .int .i64 (i : Int), .slice (some ⟨vb, 0, none⟩) 1 1] w fun e w' => e = .returned (.slice (some ⟨g, 0, none⟩) (n + 1) cap) ∧ w'.ownsRow n0 100 1 (.slice (some ⟨g, 0, none⟩) (n + 1) cap) (n + 1) (cs.take i ++ x :: cs.drop i) ∧ w.grownBy w' (some g) := by
  have hl : cs.length = n := by have := hown.1; omega
  obtain ⟨cur, hh, hs, hm⟩ := own_there hown
  have hc63 : cap ≤ 9223372036854775807 := by unfold maxLen at hm; exact hm
  have mixed : Try.prog.follows .mixedOrders = true := by kernel_rfl
  have hsz : (Try.prog.info? 100).map (·.size) = some 1 := by kernel_rfl
  have hsome : ∀ j, j < n + 1 → (w.cell? ⟨g, j, none⟩).isSome = true := fun j hj => by
    rw [cell_of_row w g j cur _ (0, 0) hh, Array.getElem?_eq_getElem (by omega)]
    rfl
  have hvs : ∀ j v, [x][j]? = some v → w.cell? ⟨vb, 0 + j, none⟩ = some v := fun j v hj => by
    rw [Nat.zero_add, cell_of_row w vb j _ _ (0, 0) hv]
    match j, hj with
    | 0, hj => exact hj
  have hov : ∀ la ca lb cb, (callFunc 73 #[.slice (some ⟨vb, 0, none⟩) la ca, .slice (some ⟨g, i + 1, none⟩) lb cb]).run Try.prog w = .ok (.value (.bool false)) w := fun la ca lb cb =>
    overlaps_no 100 100 1 cap hvb (by unfold World.shape?; rw [hv]; rfl) (by unfold World.shape?; rw [hh]; show some (_, cur.size) = _; rw [hs]) (by omega) (by unfold World.frozen?; rw [hv]; simp) (by unfold World.frozen?; rw [hv]; simp)
  have hfz : ∀ j, w.frozen? ⟨g, j, none⟩ = false := own_frozen hown
  have hcell : ∀ j v, cs[j]? = some v → w.cell? ⟨g, j, none⟩ = some v := fun j v hj => own_cell hown j v hj
  have hdl : (cs.drop i).length = n - i := by rw [List.length_drop, hl]
  obtain ⟨W1, hW1⟩ : ∃ W1, W1 = w.drew.setCells g (i + 1) (cs.drop i) := ⟨_, rfl⟩
  have hcp1 : ∀ ty dc sc, (Builtin.copy_ #[97, 97] ty #[.slice (some ⟨g, i + 1, none⟩) (n - i) dc, .slice (some ⟨g, i, none⟩) (n + 1 - i) sc]).run Try.prog w.drew = .ok (goInt (cs.drop i).length) W1 := fun ty dc sc => by
    rw [hW1]
    exact run_copy_cells w.drew _ _ ty 100 g (i + 1) (n - i) dc ⟨g, i, none⟩ (n + 1 - i) sc (cs.drop i) Try.underlying97 hsz (by rw [hdl]; simp only [Nat.min_def]; split <;> omega)
      (fun j v hj => by rw [Addr.add_lit]; exact hcell (i + j) v (by rwa [List.getElem?_drop] at hj))
      (fun j hj => hsome _ (by omega)) (fun j hj => hfz _) (fun v hv => h1c v (List.mem_of_mem_drop hv))
  have hsp1 : ∀ k, k < n + 1 → (W1.cell? ⟨g, k, none⟩).isSome = true := fun k hk => by
    rw [hW1]
    exact isSome_setCells g (cs.drop i) (i + 1) w.drew (fun j hj => hsome _ (by rw [hdl] at hj; omega)) _ (hsome k hk)
  have hcp2 : ∀ (W : World), (∀ x, W.cell? x = W1.cell? x) → (∀ x, W.frozen? x = W1.frozen? x) → ∀ ty dc, (Builtin.copy_ #[97, 97] ty #[.slice (some ⟨g, i, none⟩) (n + 1 - i) dc, .slice (some ⟨vb, 0, none⟩) 1 1]).run Try.prog W = .ok (goInt [x].length) (W.setCells g i [x]) := fun W hWc hWf ty dc =>
    run_copy_cells W _ _ ty 100 g i (n + 1 - i) dc ⟨vb, 0, none⟩ 1 1 [x] Try.underlying97 hsz (by simp only [Nat.min_def]; split <;> (simp; try omega))
      (fun j v hj => by
        rw [Addr.add_lit, hWc, hW1, World.cell?_setCells_out g _ _ _ _ (fun h _ => absurd h hvb)]
        exact hvs j v hj)
      (fun j hj => by rw [hWc]; exact hsp1 _ (by simp at hj; omega)) (fun j hj => by rw [hWf, hW1, World.frozen?_setCells]; exact hfz _) (by intro u hu; cases List.mem_singleton.1 hu; exact h1)
  have hfin := put_in (i := i) x hown (by omega) hroom w.drew rfl rfl rfl rfl
  rw [Nat.zero_add, Nat.zero_add, ← hW1] at hfin
  have HFIN := Aside0.mk hfin
  have hz2 : ¬ ((i : Int) = (n : Int)) := by omega
  have hz2' : ¬ (i = n) := by omega
  have hz3 : ¬ ((cap : Int) < (n : Int) + 1) := by omega
  have hz3' : ¬ (cap < n + 1) := by omega
  have hb1 : (0 : Int) ≤ (i : Int) + 1 := by omega
  have hb1' : (0 : Int) ≤ (n : Int) + 1 := by omega
  have hb1'' : (n : Int) + 1 ≤ (cap : Int) := by omega
  have hin : i ≤ n := by omega
  have htn : ((i : Int) + 1).toNat = i + 1 := by omega
  have htn' : ((n : Int) + 1).toNat = n + 1 := by omega
  have hb2 : ¬ (cap = i + 1) := by omega
  have hb3 : (i : Int) ≤ (n : Int) + 1 := by omega
  have hb3' : (i : Int) + 1 ≤ (n : Int) + 1 := by omega
  have hb4 : ¬ (cap = i) := by omega
  have hw1 : IntKind.i64.wrap ((i : Int) + 1) = (i : Int) + 1 := by rw [IntKind.wrap_i64]; omega
  have hw1' : wrap64 ((i : Int) + 1) = (i : Int) + 1 := by clear hw1; unfold wrap64; omega
  have hw2' : wrap64 ((n : Int) + 1) = (n : Int) + 1 := by clear hw1 hw1'; unfold wrap64; omega
  clear hfin hsp1 hdl hcell hfz hvs hsome hsz hh hs hm hl hown hv h1 h1c hvb hroom hi
  go_enter Try.func58, Try.ntmps58
  go_wp2_with (simp only [hov])
  go_region_law_o (refine step_copy_runI rfl _ _ 97 97 rfl _ _ (by simp [Act.eval, Act.put]) (by simp [Act.eval, Act.put]) (hcp1 _ _ _) ?_)
  go_wp2_with (at_builtin; refine wpList_copy_runI _ rfl _ _ 97 97 rfl _ _ rfl rfl (hcp2 _ (fun _ => rfl) (fun _ => rfl) _ _) ?_)
  go_ret
  have hfin := HFIN.out
  rw [hW1] at hfin
  exact ⟨rfl, hfin.1, hfin.2⟩
theorem zeros_one (k : Nat) : Builtin.zeroCells (Value.pointer none).cells k = Array.replicate k (.pointer none) := by
  apply Array.ext
  · simp [Builtin.zeroCells, Value.cells]
  · intro j h1 h2
    simp [Builtin.zeroCells, Value.cells, Nat.mod_one]
set_option maxRecDepth 100000 in
set_option maxHeartbeats 4000000 in
/-- Ahead of the end, where there is no room: a new row. -/
theorem insert_grow {g cap : Nat} (hown : w.ownsRow n0 100 1 (.slice (some ⟨g, 0, none⟩) n cap) n cs) (hn0 : n0 ≤ w.heap.size) (hi : i < n) (hn : n ≤ 65536) (hroom : cap < n + 1) (hvb : vb ≠ g) (hv : w.heap[vb]? = some (.cells #[x] 100 (0, 0))) (h1 : x.oneCell' = true) (h1c : ∀ v ∈ cs, v.oneCell' = true) :
    Calls Try.prog 58 #[.slice (some ⟨g, 0, none⟩) n cap, .int .i64 (i : Int), .slice (some ⟨vb, 0, none⟩) 1 1] w fun e w' => ∃ v', e = .returned v' ∧ w'.ownsRow n0 100 1 v' (n + 1) (cs.take i ++ x :: cs.drop i) ∧ w.grownBy w' none ∧ (∀ k, v'.ownBlock = some k → w.heap.size ≤ k) := by
  have hl : cs.length = n := by have := hown.1; omega
  obtain ⟨cur, hh, hs, hm⟩ := own_there hown
  obtain ⟨i0, hi0, hz0, hzs, hzb⟩ := info_parts infoP
  have hcap := St.own_cap hown
  obtain rfl : cap = n := by omega
  have mixed : Try.prog.follows .mixedOrders = true := by kernel_rfl
  have hsz : (Try.prog.info? 100).map (·.size) = some 1 := by kernel_rfl
  have hcell : ∀ j v, cs[j]? = some v → w.cell? ⟨g, j, none⟩ = some v := fun j v hj => own_cell hown j v hj
  have hbw : g < w.heap.size := (Array.getElem?_eq_some_iff.1 hh).1
  have hvw : vb < w.heap.size := (Array.getElem?_eq_some_iff.1 hv).1
  have hvs : ∀ j v, [x][j]? = some v → w.cell? ⟨vb, 0 + j, none⟩ = some v := fun j v hj => by
    rw [Nat.zero_add, cell_of_row w vb j _ _ (0, 0) hv]
    match j, hj with
    | 0, hj => exact hj
  have hold : (Builtin.firstCells i0.size i (.slice (some ⟨g, 0, none⟩) i cap)).run Try.prog w.drew = .ok (cs.take i).toArray w.drew := by
    rw [hzs]
    exact run_firstCells_some w.drew 1 i ⟨g, 0, none⟩ i cap (cs.take i) (by rw [List.length_take]; omega) (fun j v hj => by
      rw [Addr.add_lit, Nat.zero_add]
      rw [List.getElem?_take] at hj
      split at hj
      · exact hcell j v hj
      · cases hj)
  have hik : i + (cap + 1 - i) = cap + 1 := by omega
  have hrz0 := fun ty => Lib.run_append_grow_zeros w 97 3 ty 100 i0 _ .i64 .i64 Try.underlying97 Try.underlying3 hi0 hz0 (some ⟨g, 0, none⟩) i cap (cs.take i) hold (cap + 1 - i) (by omega) (by omega) (by omega) (by omega) (by rw [hzb]; omega) (by rw [hzb, hik]; exact growslice_fits hroom (by omega))
  obtain ⟨G, hG⟩ : ∃ G, G = grownCap w (cap + 1) cap 100 := ⟨_, rfl⟩
  obtain ⟨ROW, hROW⟩ : ∃ ROW : Array Value, ROW = (cs.take i).toArray ++ Builtin.zeroCells (Value.pointer none).cells (cap + 1 - i) ++ Builtin.zeroCells (Value.pointer none).cells (G - (cap + 1)) := ⟨_, rfl⟩
  have hGn : cap + 1 ≤ G := by rw [hG]; exact grownCap_ge w _ _ _
  have hGM : G ≤ maxLen := by
    have := grownCap_le_maxLen w (cap + 1) cap 100 (by unfold maxLen; omega)
    rw [← hG] at this
    exact this
  have hG63 : G ≤ 9223372036854775807 := by unfold maxLen at hGM; exact hGM
  have hROWs : ROW.size = G := by
    rw [hROW, zeros_one, zeros_one, Array.size_append, Array.size_append, Array.size_replicate, Array.size_replicate, List.size_toArray, List.length_take, hl]
    omega
  have hrz : ∀ ty, (Builtin.append_ #[97, 3] ty #[.slice (some ⟨g, 0, none⟩) i cap, .int .i64 ((cap : Int) + 1 - (i : Int))]).run Try.prog w = .ok (.slice (some ⟨w.heap.size, 0, none⟩) (cap + 1) G) (w.drew.alloc (.cells ROW 100)) := fun ty => by
    have h := hrz0 ty
    rw [hik, ← hG, ← hROW] at h
    rw [show (cap : Int) + 1 - (i : Int) = ((cap + 1 - i : Nat) : Int) by omega]
    exact h
  obtain ⟨B, hB⟩ : ∃ B, B = w.heap.size := ⟨_, rfl⟩
  obtain ⟨W1, hW1⟩ : ∃ W1, W1 = w.drew.alloc (.cells ROW 100) := ⟨_, rfl⟩
  have hW1B : W1.heap[B]? = some (.cells ROW 100 (0, 0)) := by rw [hW1, hB]; exact heap_alloc_new w.drew _
  rw [← hW1, ← hB] at hrz
  clear hrz0
  have hN : ∀ j, j < cap + 1 → (W1.cell? ⟨B, j, none⟩).isSome = true := fun j hj => by
    rw [cell_of_row W1 B j ROW _ (0, 0) hW1B, Array.getElem?_eq_getElem (by omega)]; rfl
  have hNf : ∀ j, W1.frozen? ⟨B, j, none⟩ = false := fun j => by unfold World.frozen?; rw [hW1B]; simp
  have hOb : ∀ b j v, b < w.heap.size → w.cell? ⟨b, j, none⟩ = some v → W1.cell? ⟨b, j, none⟩ = some v := fun b j v hlt h => by
    rw [hW1]
    exact Lib.cell?_alloc_some (W := w.drew) _ h
  have hcpA : ∀ (W : World), (∀ x, W.cell? x = W1.cell? x) → (∀ x, W.frozen? x = W1.frozen? x) → ∀ ty dc, (Builtin.copy_ #[97, 97] ty #[.slice (some ⟨B, i, none⟩) (cap + 1 - i) dc, .slice (some ⟨vb, 0, none⟩) 1 1]).run Try.prog W = .ok (goInt [x].length) (W.setCells B i [x]) := fun W hWc hWf ty dc =>
    run_copy_cells W _ _ ty 100 B i (cap + 1 - i) dc ⟨vb, 0, none⟩ 1 1 [x] Try.underlying97 hsz (by simp only [Nat.min_def]; split <;> (simp; try omega))
      (fun j v hj => by rw [Addr.add_lit, hWc]; exact hOb _ _ v hvw (hvs j v hj))
      (fun j hj => by rw [hWc]; exact hN _ (by simp at hj; omega)) (fun j hj => by rw [hWf]; exact hNf _) (by intro u hu; cases List.mem_singleton.1 hu; exact h1)
  have hdl : (cs.drop i).length = cap - i := by rw [List.length_drop, hl]
  have hbN : g ≠ B := by omega
  have hcpB : ∀ (W : World), (∀ y, W.cell? y = (W1.setCells B i [x]).cell? y) → (∀ y, W.frozen? y = (W1.setCells B i [x]).frozen? y) → ∀ ty dc sc, (Builtin.copy_ #[97, 97] ty #[.slice (some ⟨B, i + 1, none⟩) (cap - i) dc, .slice (some ⟨g, i, none⟩) (cap - i) sc]).run Try.prog W = .ok (goInt (cs.drop i).length) (W.setCells B (i + 1) (cs.drop i)) := fun W hWc hWf ty dc sc =>
    run_copy_cells W _ _ ty 100 B (i + 1) (cap - i) dc ⟨g, i, none⟩ (cap - i) sc (cs.drop i) Try.underlying97 hsz (by rw [hdl]; simp only [Nat.min_def]; split <;> omega)
      (fun j v hj => by
        rw [Addr.add_lit, hWc, World.cell?_setCells_out _ _ _ _ _ (fun h _ => absurd h hbN)]
        exact hOb _ _ v hbw (hcell (i + j) v (by rwa [List.getElem?_drop] at hj)))
      (fun j hj => by rw [hWc]; exact isSome_setCells B [x] i W1 (fun t ht => hN _ (by simp at ht; omega)) _ (hN _ (by rw [hdl] at hj; omega)))
      (fun j hj => by rw [hWf, World.frozen?_setCells]; exact hNf _) (fun v hv => h1c v (List.mem_of_mem_drop hv))
  have hfin : ((W1.setCells B i [x]).drew.setCells B (i + 1) (cs.drop i)).ownsRow n0 100 1 (.slice (some ⟨B, 0, none⟩) (cap + 1) G) (cap + 1) (cs.take i ++ x :: cs.drop i) ∧ w.grownBy ((W1.setCells B i [x]).drew.setCells B (i + 1) (cs.drop i)) none := by
    constructor
    · refine ⟨by rw [List.length_append, List.length_cons, List.length_take, List.length_drop]; omega, .inr ⟨B, G, _, rfl, by omega, setCells_here (cs.drop i) (i + 1) _ (W1.setCells B i [x]).drew (setCells_here [x] i ROW W1 hW1B), hGn, hGM, by rw [setAll_size, setAll_size, hROWs, Nat.mul_one], ?_⟩⟩
      rw [setAll_list _ _ _ (by rw [setAll_size, hROWs, hdl]; omega), setAll_list _ _ _ (by rw [hROWs, List.length_singleton]; omega), List.length_singleton, hdl, Nat.mul_one]
      have hRl : ROW.toList.length = G := by rw [Array.length_toList, hROWs]
      have ht1 : ROW.toList.take i = cs.take i := by
        rw [hROW, Array.toList_append, Array.toList_append, List.append_assoc, List.take_append_of_le_length (by simp; omega)]
        simp only [List.take_take, Nat.min_self]
      have e1 : (ROW.toList.take i ++ [x] ++ ROW.toList.drop (i + 1)).take (i + 1) = cs.take i ++ [x] := by
        rw [ht1]
        exact List.take_left' (by rw [List.length_append, List.length_take, List.length_singleton, hl]; omega)
      rw [e1]
      exact List.take_left' (by rw [List.length_append, List.length_append, List.length_take, List.length_singleton, hl, hdl]; omega) |>.trans (by rw [List.append_assoc]; rfl)
    · have g1 : w.grownBy W1 none := by
        have g := World.grownBy_alloc w.drew (.cells ROW 100) none
        rw [← hW1] at g
        exact ⟨g.os, g.tape, g.output, g.size, g.block⟩
      have h2 := setCells_grown (g := B) [x] i W1
      have h3 := setCells_grown (g := B) (cs.drop i) (i + 1) (W1.setCells B i [x]).drew
      refine ⟨h3.os.trans (h2.os.trans g1.os), h3.tape.trans (h2.tape.trans g1.tape), h3.output.trans (h2.output.trans g1.output), Nat.le_trans g1.size (Nat.le_trans h2.size h3.size), fun k hk _ => ?_⟩
      have hkB : some k ≠ some B := fun e => by injection e with e; omega
      exact (h3.block k (Nat.lt_of_lt_of_le hk (Nat.le_trans g1.size h2.size)) hkB).trans ((h2.block k (Nat.lt_of_lt_of_le hk g1.size) hkB).trans (g1.block k hk (fun e => by cases e)))
  have HFIN := Aside0.mk hfin
  have HBB := Go.Lib.hid hB
  have HW1 := Aside0.mk hW1
  have hz2 : ¬ ((i : Int) = (cap : Int)) := by omega
  have hz2' : ¬ (i = cap) := by omega
  have hb1 : (0 : Int) ≤ (i : Int) + 1 := by omega
  have hin : i ≤ cap := by omega
  have htn : ((i : Int) + 1).toNat = i + 1 := by omega
  have hb3 : (i : Int) ≤ (cap : Int) + 1 := by omega
  have hb3' : (i : Int) + 1 ≤ (cap : Int) + 1 := by omega
  have hb4 : ¬ (cap = i) := by omega
  have hGi : ¬ (G = i) := by omega
  have hGim : ¬ (G = i + 1) := by omega
  have hw1 : IntKind.i64.wrap ((i : Int) + 1) = (i : Int) + 1 := by rw [IntKind.wrap_i64]; omega
  have hw1' : wrap64 ((i : Int) + 1) = (i : Int) + 1 := by clear hw1; unfold wrap64; omega
  have hw2' : wrap64 ((cap : Int) + 1) = (cap : Int) + 1 := by clear hw1 hw1'; unfold wrap64; omega
  have hF1 : ∀ y, (W1.setCells B i [x]).drew.cell? y = (W1.setCells B i [x]).cell? y := fun y => rfl
  have hF2 : ∀ y, (W1.setCells B i [x]).drew.frozen? y = (W1.setCells B i [x]).frozen? y := fun y => rfl
  clear hfin hN hNf hOb hdl hbN hROWs hGM hcell hvs hsz hh hs hm hl hown hv h1 h1c hvb hroom hi hold hik hG hROW hbw hvw hcap hn hn0 hW1B hB hW1 hi0 hz0 hzs hzb
  go_enter Try.func58, Try.ntmps58
  go_wp2_with (first
    | (at_builtin; refine Lib.wpList_append_run _ rfl _ _ _ _ rfl _ _ rfl rfl _ _ (hrz _) ?_)
    | (at_builtin; refine wpList_copy_runI _ rfl _ _ 97 97 rfl _ _ rfl rfl (hcpA _ (fun _ => rfl) (fun _ => rfl) _ _) ?_))
  go_region_law_o (refine step_copy_runI rfl _ _ 97 97 rfl _ _ (by simp [Act.eval, Act.put]) (by simp [Act.eval, Act.put]) (hcpB _ hF1 hF2 _ _ _) ?_)
  go_wp2
  go_ret
  exact ⟨_, rfl, HFIN.out.1, HFIN.out.2, fun k hk => by have hk2 : B = k := (by injection hk); have := HBB.out; omega⟩
/-- slices.Insert of one pointer. -/
theorem insert_calls (hown : w.ownsRow n0 100 1 vl n cs) (hn0 : n0 ≤ w.heap.size) (hi : i ≤ n) (hn : n ≤ 65536) (hvb : vl.ownBlock ≠ some vb) (hv : w.heap[vb]? = some (.cells #[x] 100 (0, 0))) (h1 : x.oneCell' = true) (h1c : ∀ v ∈ cs, v.oneCell' = true) :
    Calls Try.prog 58 #[vl, .int .i64 (i : Int), .slice (some ⟨vb, 0, none⟩) 1 1] w fun e w' => ∃ v', e = .returned v' ∧ w'.ownsRow n0 100 1 v' (n + 1) (cs.take i ++ x :: cs.drop i) ∧ w.grownBy w' vl.ownBlock ∧ (v'.ownBlock = vl.ownBlock ∨ ∀ k, v'.ownBlock = some k → w.heap.size ≤ k) := by
  have hl : cs.length = n := by have := hown.1; omega
  by_cases c : i = n
  · subst c
    have h := insert_end hown hn0 hn hv h1
    rw [← hl] at h ⊢
    rw [List.take_length, List.drop_length]
    exact h
  · obtain ⟨g, cap, rfl, _, _⟩ := own_some hown (by omega)
    have hne : vb ≠ g := fun e => hvb (by rw [e]; rfl)
    by_cases c2 : n + 1 ≤ cap
    · refine (insert_shift hown (by omega) c2 hne hv h1 h1c).mono ?_
      rintro e w' ⟨rfl, p1, p2⟩
      exact ⟨_, rfl, p1, p2, .inl rfl⟩
    · refine (insert_grow hown hn0 (by omega) hn (by omega) hne hv h1 h1c).mono ?_
      rintro e w' ⟨v', rfl, p1, p2, p3⟩
      exact ⟨_, rfl, p1, ⟨p2.os, p2.tape, p2.output, p2.size, fun k hk _ => p2.block k hk (fun e => by cases e)⟩, .inr p3⟩
end
end Go.Proofs.Ytgolghimefageaa.QW
