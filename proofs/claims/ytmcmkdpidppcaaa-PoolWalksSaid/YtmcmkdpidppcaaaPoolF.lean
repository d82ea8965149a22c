/- A pool of whole numbers: a place goes in among the free ones (slices.Insert). -/
import Derived.Test.YtmcmkdpidppcaaaPoolIns
import Derived.Test.YtmcmkdpidppcaaaPoolE
namespace Go.Proofs.Ytmcmkdpidppcaaa.St
open Go.Proofs Go.RowKit Go.Proofs.YtmcmkdpidppcaaaW.PrintWords Go.Proofs.YtmcmkdpidppcaaaW.PrintLast Go.Proofs.YtmcmkdpidppcaaaW.PrintMore
def setAll : Array Value → Nat → List Value → Array Value
  | cur, _, [] => cur
  | cur, o, v :: vs => setAll (cur.setIfInBounds o v) (o + 1) vs
theorem setAll_size : ∀ (vs : List Value) (cur : Array Value) (o : Nat), (setAll cur o vs).size = cur.size
  | [], _, _ => rfl
  | v :: vs, cur, o => by rw [setAll, setAll_size vs]; exact Array.size_setIfInBounds
theorem setAll_list : ∀ (vs : List Value) (cur : Array Value) (o : Nat), o + vs.length ≤ cur.size → (setAll cur o vs).toList = cur.toList.take o ++ vs ++ cur.toList.drop (o + vs.length)
  | [], cur, o, _ => by rw [setAll, List.append_nil, List.length_nil, Nat.add_zero, List.take_append_drop]
  | v :: vs, cur, o, h => by
    rw [List.length_cons] at h
    have hl : o < cur.toList.length := by rw [Array.length_toList]; omega
    rw [setAll, setAll_list vs _ (o + 1) (by rw [Array.size_setIfInBounds]; omega), Array.toList_setIfInBounds]
    have e1 : (cur.toList.set o v).take (o + 1) = cur.toList.take o ++ [v] := by
      rw [List.take_set, List.take_succ_eq_append_getElem hl, List.set_append_right _ _ (by rw [List.length_take]; omega), List.length_take, Nat.min_eq_left (Nat.le_of_lt hl), Nat.sub_self]
      rfl
    have e2 : (cur.toList.set o v).drop (o + 1 + vs.length) = cur.toList.drop (o + 1 + vs.length) := List.drop_set_of_lt (by omega)
    rw [e1, e2, List.length_cons, List.append_assoc, List.append_assoc, List.append_assoc, show o + (vs.length + 1) = o + 1 + vs.length by omega]
    rfl
theorem setCells_here {e : TypeId} {g : Nat} : ∀ (vs : List Value) (o : Nat) (cur : Array Value) (w : World), w.heap[g]? = some (.cells cur e (0, 0)) → (w.setCells g o vs).heap[g]? = some (.cells (setAll cur o vs) e (0, 0))
  | [], _, _, _, h => h
  | v :: vs, o, cur, w, h => setCells_here vs (o + 1) _ (w.setCell ⟨g, o, none⟩ v) (heap_setCell_same w g o cur e v h)
theorem setCells_grown {g : Nat} : ∀ (vs : List Value) (o : Nat) (w : World), w.grownBy (w.setCells g o vs) (some g)
  | [], _, w => ⟨rfl, rfl, rfl, Nat.le_refl _, fun _ _ _ => rfl⟩
  | v :: vs, o, w => by
    have h := setCells_grown (g := g) vs (o + 1) (w.setCell ⟨g, o, none⟩ v)
    have hs : (w.setCell ⟨g, o, none⟩ v).heap.size = w.heap.size := by simp
    exact ⟨h.os, h.tape, h.output, by have := h.size; rw [hs] at this; exact this, fun k hk hne => (h.block k (by rw [hs]; exact hk) hne).trans (heap_setCell_other w ⟨g, o, none⟩ k v (fun e => hne (by rw [e])))⟩
/-- What a row says when x has gone in at i. -/
theorem put_in {w : World} {n0 g cap n i : Nat} {e : TypeId} {cs : List Value} (x : Value) (hown : w.ownsRow n0 e 1 (.slice (some ⟨g, 0, none⟩) n cap) n cs) (hi : i ≤ n) (hroom : n + 1 ≤ cap) (W : World) (hW : W.heap = w.heap) (hos : W.os = w.os) (htp : W.tape = w.tape) (hout : W.output = w.output) :
    ((W.setCells g (0 + (i + 1)) (cs.drop i)).setCells g (0 + i) [x]).ownsRow n0 e 1 (.slice (some ⟨g, 0, none⟩) (n + 1) cap) (n + 1) (cs.take i ++ x :: cs.drop i) ∧ w.grownBy ((W.setCells g (0 + (i + 1)) (cs.drop i)).setCells g (0 + i) [x]) (some g) := by
  have hl : cs.length = n := by have := hown.1; omega
  constructor
  · rcases hown.2 with ⟨h', _⟩ | ⟨g', cap', cur, h', hb, hh, hn, hm, hs, ht⟩
    · cases h'
    · injection h' with h1 h2 h3
      injection h1 with h1
      injection h1 with h1
      subst h1
      subst h3
      rw [Nat.mul_one] at hs ht
      refine ⟨by rw [List.length_append, List.length_cons, List.length_take, List.length_drop]; omega, .inr ⟨g, cap, _, rfl, hb, setCells_here [x] (0 + i) _ _ (setCells_here (cs.drop i) (0 + (i + 1)) cur W (by rw [hW]; exact hh)), hroom, hm, by rw [setAll_size, setAll_size, hs, Nat.mul_one], ?_⟩⟩
      have hdl : (cs.drop i).length = n - i := by rw [List.length_drop, hl]
      rw [Nat.zero_add, Nat.zero_add, setAll_list _ _ _ (by rw [setAll_size, hs, List.length_singleton]; omega), setAll_list _ _ _ (by rw [hs, hdl]; omega), List.length_singleton, hdl]
      have hcl : cur.toList.length = cap := by rw [Array.length_toList, hs]
      have ht1 : (cur.toList.take (i + 1)).length = i + 1 := by rw [List.length_take, hcl]; omega
      have q1 : (cur.toList.take (i + 1) ++ cs.drop i ++ cur.toList.drop (i + 1 + (n - i))).take i = cs.take i := by
        rw [List.append_assoc, List.take_append_of_le_length (by omega), List.take_take, Nat.min_eq_left (by omega), ← ht, List.take_take, Nat.min_eq_left hi]
      have q2 : (cur.toList.take (i + 1) ++ cs.drop i ++ cur.toList.drop (i + 1 + (n - i))).drop (i + 1) = cs.drop i ++ cur.toList.drop (i + 1 + (n - i)) := by
        rw [List.append_assoc]
        exact List.drop_left' ht1
      rw [q1, q2, Nat.mul_one, List.append_assoc]
      have q3 : cs.take i ++ ([x] ++ (cs.drop i ++ cur.toList.drop (i + 1 + (n - i)))) = (cs.take i ++ x :: cs.drop i) ++ cur.toList.drop (i + 1 + (n - i)) := by
        rw [List.append_assoc]
        rfl
      rw [q3]
      exact List.take_left' (by rw [List.length_append, List.length_cons, List.length_take, List.length_drop]; omega)
  · have h1 := setCells_grown (g := g) (cs.drop i) (0 + (i + 1)) W
    have h2 := setCells_grown (g := g) [x] (0 + i) (W.setCells g (0 + (i + 1)) (cs.drop i))
    exact ⟨h2.os.trans (h1.os.trans hos), h2.tape.trans (h1.tape.trans htp), h2.output.trans (h1.output.trans hout), by have a := h1.size; have b := h2.size; rw [hW] at a; omega, fun k hk hne => (h2.block k (Nat.lt_of_lt_of_le (by rw [hW]; exact hk) h1.size) hne).trans ((h1.block k (by rw [hW]; exact hk) hne).trans (by rw [hW]))⟩
theorem own_there {w : World} {n0 g cap n : Nat} {e : TypeId} {cs : List Value} (hown : w.ownsRow n0 e 1 (.slice (some ⟨g, 0, none⟩) n cap) n cs) : ∃ cur, w.heap[g]? = some (.cells cur e (0, 0)) ∧ cur.size = cap ∧ cap ≤ maxLen := by
  rcases hown.2 with ⟨h', _⟩ | ⟨g', cap', cur, h', hb, hh, hn, hm, hs, ht⟩
  · cases h'
  · injection h' with h1 h2 h3
    injection h1 with h1
    injection h1 with h1
    subst h1
    subst h3
    exact ⟨cur, hh, by omega, hm⟩
theorem insert_calls {w : World} {n0 g cap n i vb : Nat} {cs : List Value} (x : Value) (hown : w.ownsRow n0 3 1 (.slice (some ⟨g, 0, none⟩) n cap) n cs) (hi : i ≤ n) (hroom : n + 1 ≤ cap) (hvb : vb ≠ g) (hv : w.heap[vb]? = some (.cells #[x] 3 (0, 0))) (h1 : x.oneCell' = true) (h1c : ∀ v ∈ cs, v.oneCell' = true) :
    Calls Try.prog 37 #[.slice (some ⟨g, 0, none⟩) n cap, .int .i64 (i : Int), .slice (some ⟨vb, 0, none⟩) 1 1] w fun e w' => e = .returned (.slice (some ⟨g, 0, none⟩) (n + 1) cap) ∧ w'.ownsRow n0 3 1 (.slice (some ⟨g, 0, none⟩) (n + 1) cap) (n + 1) (cs.take i ++ x :: cs.drop i) ∧ w.grownBy w' (some g) := by
  have hl : cs.length = n := by have := hown.1; omega
  obtain ⟨cur, hh, hs, hm⟩ := own_there hown
  have hc63 : cap ≤ 9223372036854775807 := by unfold maxLen at hm; exact hm
  have hsome : ∀ j, j < cap → (w.cell? ⟨g, j, none⟩).isSome = true := fun j hj => by
    rw [cell_of_row w g j cur _ (0, 0) hh, Array.getElem?_eq_getElem (by omega)]
    rfl
  have hvs : ∀ j v, [x][j]? = some v → w.cell? ⟨vb, 0 + j, none⟩ = some v := fun j v hj => by
    rw [Nat.zero_add, cell_of_row w vb j _ _ (0, 0) hv]
    match j, hj with
    | 0, hj => exact hj
  have hfv : ∀ j, w.frozen? ⟨vb, j, none⟩ = false := fun j => by unfold World.frozen?; rw [hv]; simp
  by_cases c : i = n
  · subst c
    refine (Any2.slices_Insert_int_end_room laysI g 0 i cap vb 0 1 1 [x] w (by decide) hroom hc63 rfl (fun j hj => hsome _ (by omega)) (fun j hj => own_frozen hown _) hvs (by simpa using h1)).mono ?_
    rintro e w' ⟨rfl, rfl⟩
    obtain ⟨p1, p2⟩ := put_in x hown hi hroom w rfl rfl rfl rfl
    rw [List.drop_of_length_le (by omega)] at p1 p2
    refine ⟨rfl, ?_, p2⟩
    rw [List.drop_of_length_le (by omega)]
    exact p1
  · refine (Any2.slices_Insert_int_shift laysI g 0 n cap i vb 0 1 1 cs [x] w (by omega) (by decide) hroom hc63 hvb hl rfl (fun j v hj => by rw [Nat.zero_add]; exact own_cell hown j v hj) (fun j hj => hsome _ (by omega)) (fun j hj => own_frozen hown _) hvs h1c (by simpa using h1)
      3 3 1 cap (by unfold World.shape?; rw [hv]; rfl) (by unfold World.shape?; rw [hh]; show some (_, cur.size) = _; rw [hs]) (by omega) (hfv _) (hfv _)).mono ?_
    rintro e w' ⟨rfl, rfl⟩
    obtain ⟨p1, p2⟩ := put_in x hown hi hroom w.drew rfl rfl rfl rfl
    exact ⟨rfl, p1, p2⟩
set_option maxRecDepth 100000 in
set_option maxHeartbeats 4000000 in
theorem give_yes {n0 : Nat} {w : World} {b : Nat} {vs vf : Value} {S : List (Bool × Int)} {F : List Int} (h : PoolAt n0 w b vs vf S F) (hR : Roomy vf S.length F.length) (k : Nat) (hk : k < S.length) (ht : (S.getD k (false, 0)).1 = true) (hS : S.length ≤ 65536) (hFl : F.length < S.length) (hF : ∀ j, j < F.length → 0 ≤ F.getD j 0 ∧ F.getD j 0 < 65536) (hsort : ∀ i j, i < j → j < F.length → F.getD j 0 < F.getD i 0) :
    Calls Try.prog 19 #[.pointer (some ⟨b, 0, none⟩), .int .i64 (k : Int)] w fun e w' => ∃ (vf' : Value) (p : Nat), e = .returned (.tuple #[.int .i64 (S.getD k (false, 0)).2, .int .i64 0]) ∧ p ≤ F.length ∧ (∀ j, j < p → (k : Int) < F.getD j 0) ∧ (∀ j, p ≤ j → j < F.length → F.getD j 0 ≤ (k : Int)) ∧ PoolAt n0 w' b vs vf' (S.set k (false, 0)) (F.take p ++ (k : Int) :: F.drop p) ∧ Roomy vf' S.length (F.length + 1) ∧ Below n0 w w' ∧ Kept w w' (Foot b vs vf) ∧ vf'.ownBlock = vf.ownBlock := by
  obtain ⟨g, cap, rfl, hcap⟩ := hR
  have hh := has_calls h k hk
  rw [ht] at hh
  obtain ⟨gs, caps, rfl, hbs, k0, k1, hth⟩ := h.slot k hk
  have c0 := h.cell0
  have fs0 := own_frozen h.slots (k * 2)
  have fs1 := own_frozen h.slots (k * 2 + 1)
  have q1 := (slotCells_get S k hk).2
  have kB := own_cell (h.slots.stored (k * 2) (.bool false)).1 (k * 2 + 1) _ (by rw [List.getElem?_set_ne (by omega)]; exact q1)
  have z2 : (k : Int) < (S.length : Int) := by omega
  obtain ⟨x, hx⟩ : ∃ x, x = (S.getD k (false, 0)).2 := ⟨_, rfl⟩
  rw [← hx] at k1 kB ⊢
  have hP1 : PoolAt n0 ((w.setCell ⟨gs, k * 2, none⟩ (.bool false)).setCell ⟨gs, k * 2 + 1, none⟩ (.int .i64 0)) b (.slice (some ⟨gs, 0, none⟩) S.length caps) (.slice (some ⟨g, 0, none⟩) F.length cap) (S.set k (false, 0)) F := h.setSlot k (false, 0)
  have hB1 : Below n0 w ((w.setCell ⟨gs, k * 2, none⟩ (.bool false)).setCell ⟨gs, k * 2 + 1, none⟩ (.int .i64 0)) := ((Below.refl n0 w).setCell (p := ⟨gs, k * 2, none⟩) hbs _).setCell (p := ⟨gs, k * 2 + 1, none⟩) hbs _
  have hK1 : Kept w ((w.setCell ⟨gs, k * 2, none⟩ (.bool false)).setCell ⟨gs, k * 2 + 1, none⟩ (.int .i64 0)) (Foot b (.slice (some ⟨gs, 0, none⟩) S.length caps) (.slice (some ⟨g, 0, none⟩) F.length cap)) := ((Kept.refl w _).setCell (p := ⟨gs, k * 2, none⟩) (.inl (.inr (.inl rfl))) _).setCell (p := ⟨gs, k * 2 + 1, none⟩) (.inl (.inr (.inl rfl))) _
  obtain ⟨W1, hW1⟩ : ∃ W1, W1 = (w.setCell ⟨gs, k * 2, none⟩ (.bool false)).setCell ⟨gs, k * 2 + 1, none⟩ (.int .i64 0) := ⟨_, rfl⟩
  rw [← hW1] at hP1 hB1 hK1
  have HK1 := Aside0.mk hK1
  have c1 := hP1.cell1
  rw [hW1] at c1
  have hsearch := search_calls hP1.free (k : Int) (by omega) hF (by omega) hsort
  have HP1 := Aside0.mk hP1
  have HB1 := Aside0.mk hB1
  have HF0 := Go.Lib.hid hFl
  have HCAP := Go.Lib.hid hcap
  have HS := Go.Lib.hid hS
  have HK := Go.Lib.hid hk
  have HWE := Aside0.mk hW1
  rw [hW1] at hsearch
  clear hK1
  clear h q1 hth hx ht hP1 hB1 hF hsort hW1 hFl hcap hS hk
  go_enter Try.func19, Try.ntmps19
  go_wp2_with (first
    | (go_at_call 34; refine hh.mono ?_; rintro e w9 ⟨rfl, h9⟩; have h8 := h9.symm; subst h8; clear h9)
    | (go_at_call 35; refine hsearch.mono ?_; rintro e w2 ⟨p, t, rfl, hp, hlo, hhi, q, hq⟩; rw [← HWE.out] at hq; have HQ := Aside0.mk (And.intro (And.intro hp hlo) hhi); have HP2 : Aside0 (PoolAt n0 w2 b (.slice (some ⟨gs, 0, none⟩) S.length caps) (.slice (some ⟨g, 0, none⟩) F.length cap) (S.set k (false, 0)) F ∧ Below n0 w w2) := ⟨by rw [hq]; exact HP1.out.kept (pw_below_drewN (Below.refl _ _) _), by rw [hq]; exact pw_below_drewN HB1.out _⟩; have HK2 : Aside0 (Kept w w2 (Foot b (.slice (some ⟨gs, 0, none⟩) S.length caps) (.slice (some ⟨g, 0, none⟩) F.length cap))) := ⟨by rw [hq]; exact HK1.out.drewN _⟩; have c2 := HP2.out.1.cell1; have f2 := HP2.out.1.frozen 1; clear hq hp hlo hhi hsearch c1)
    | (go_at_call 37; refine (insert_calls (i := p) (vb := w2.heap.size) (.int .i64 (k : Int)) (HP2.out.1.free.alloc _) HQ.out.1.1 (by have := HF0.out; have := HCAP.out; omega) (by have := (HP2.out.1.free.lt g rfl).2; omega) (heap_alloc_new w2 _) rfl (fun v hv => by obtain ⟨y, _, rfl⟩ := List.mem_map.1 hv; rfl)).mono ?_; rintro e w4 ⟨rfl, hown4, hgrow⟩; have hg4 : w2.grownBy w4 (some g) := grown_of (k := 0) hgrow; have hbg : some b ≠ some g := Ne.symm HP2.out.1.d2; have c4 := hg4.cell c2 hbg; have f4 : w4.frozen? ⟨b, 1, none⟩ = false := (World.frozen?_of_block (hg4.block b HP2.out.1.lt hbg)).trans f2; have H4 := Aside0.mk (And.intro hg4 hown4); clear hg4 hown4 hgrow hbg c2 f2))
  go_ret2
  have hlen : (F.take p ++ (k : Int) :: F.drop p).length = F.length + 1 := by
    have := HQ.out.1.1
    rw [List.length_append, List.length_cons, List.length_take, List.length_drop]
    omega
  refine ⟨_, p, rfl, HQ.out.1.1, HQ.out.1.2, HQ.out.2, HP2.out.1.setFree H4.out.1 ?_ (.inl rfl), ⟨g, cap, rfl, HCAP.out⟩, ?_, (Kept.of_grown H4.out.1 HK2.out (fun k hk => .inl (.inr (.inr hk)))).setCell (p := ⟨b, 1, none⟩) (.inl (.inl rfl)) _, rfl⟩
  · rw [hlen, List.map_append, List.map_cons, List.map_take, List.map_drop]
    exact H4.out.2
  · have h1 := HP2.out.1.hb
    have h2 := HP2.out.1.lt
    exact (HP2.out.2.grown H4.out.1 (by omega) (fun k hk => (HP2.out.1.free.lt k hk).1)).setCell (p := ⟨b, 1, none⟩) h1 _
theorem PoolAt.roomy {n0 : Nat} {w : World} {b : Nat} {vs vf : Value} {S : List (Bool × Int)} {F : List Int} (h : PoolAt n0 w b vs vf S F) (hl : F.length = S.length) (h0 : 0 < S.length) : Roomy vf S.length F.length := by
  obtain ⟨g, cap, rfl, _, _⟩ := own_some h.free (by omega)
  exact ⟨g, cap, rfl, by have := own_cap h.free; omega⟩
set_option maxRecDepth 100000 in
theorem give_no {n0 : Nat} {w : World} {b : Nat} {vs vf : Value} {S : List (Bool × Int)} {F : List Int} (h : PoolAt n0 w b vs vf S F) (i : Int) (c : hasL S i = false) : Calls Try.prog 19 #[.pointer (some ⟨b, 0, none⟩), .int .i64 i] w fun e w' => e = .returned (.tuple #[.int .i64 0, .int .i64 51]) ∧ w' = w := by
  have hh := has_any h i
  rw [c] at hh
  clear h c
  go_enter Try.func19, Try.ntmps19
  go_wp2_with (go_at_call 34; refine hh.mono ?_; rintro e w' ⟨rfl, rfl⟩)
  go_ret2
  exact ⟨rfl, rfl⟩
end Go.Proofs.Ytmcmkdpidppcaaa.St
