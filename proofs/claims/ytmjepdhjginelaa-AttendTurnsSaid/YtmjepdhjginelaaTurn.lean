/- AttendTurns: the law's walk. -/
import Derived.Test.YtmjepdhjginelaaLookC
namespace Go.Proofs.Ytmjepdhjginelaa.Tu
set_option linter.unusedVariables false
open Go.Proofs Go.RowKit Go.Shelf Go.Proofs.YtmjepdhjginelaaW.PrintWords Go.Proofs.YtmjepdhjginelaaW.PrintLast Go.Proofs.YtmjepdhjginelaaW.PrintMore Go.Proofs.Ytmjepdhjginelaa.B Go.Proofs.Ytmjepdhjginelaa.St Go.Proofs.Ytmjepdhjginelaa.Pure
attribute [local go_sem] Oper.semAt_some
theorem pg_of {y : S43} (h : G43 y) : PG y.f2 := ⟨(g43 h).1, (g43 h).2.1, (g43 h).2.2⟩
theorem i64_of {x : Int} (h : (Lit.int .i64 x).wf = true) : -9223372036854775808 ≤ x ∧ x ≤ 9223372036854775807 := by
  have h' : (decide (IntKind.i64.min ≤ x) && decide (x ≤ IntKind.i64.max)) = true := h
  rw [Bool.and_eq_true, decide_eq_true_eq, decide_eq_true_eq] at h'
  exact h'
theorem cells_at {w : World} {b : Nat} {cs : Array Value} {t : TypeId} (h : w.heap[b]? = some (.cells cs t (0, 0))) (j : Nat) (u : Value) (hu : cs[j]? = some u) : w.cell? ⟨b, j, none⟩ = some u := by
  rw [cell_of_row w b j _ _ (0, 0) h]; exact hu
/-- The box of the pairs, and what lies below. -/
structure Bx (w W : World) (heads s : Int) (v : Value) : Prop where
  blk : W.heap[w.heap.size]? = some (.cells #[.int .i64 heads, .int .i64 s, v] 43 (0, 0))
  bel : Below w.heap.size w W
section
variable {w W W' : World} {heads s : Int} {v : Value}
theorem Bx.c0 (h : Bx w W heads s v) : W.cell? ⟨w.heap.size, 0, none⟩ = some (.int .i64 heads) := cells_at h.blk 0 _ rfl
theorem Bx.c1 (h : Bx w W heads s v) : W.cell? ⟨w.heap.size, 1, none⟩ = some (.int .i64 s) := cells_at h.blk 1 _ rfl
theorem Bx.c2 (h : Bx w W heads s v) : W.cell? ⟨w.heap.size, 2, none⟩ = some v := cells_at h.blk 2 _ rfl
theorem Bx.lt (h : Bx w W heads s v) : w.heap.size < W.heap.size := (Array.getElem?_eq_some_iff.1 h.blk).1
theorem Bx.kept (h : Bx w W heads s v) (hB : Below W.heap.size W W') : Bx w W' heads s v := ⟨(hB.block _ h.lt).trans h.blk, h.bel.trans (hB.mono h.bel.size)⟩
theorem Bx.grown {row : Option Nat} (h : Bx w W heads s v) (hg : W.grownBy W' row) (hB : Below w.heap.size w W') (hne : some w.heap.size ≠ row) : Bx w W' heads s v := ⟨(hg.block _ h.lt hne).trans h.blk, hB⟩
theorem Bx.drew (h : Bx w W heads s v) : Bx w W.drew heads s v := h.kept ((Below.refl _ W).drew)
end
theorem far6 {w W : World} {v6 : Value} {g : Nat} (hg : w.heap.size < g) (hat : v6.ownBlock = (Value.slice (some ⟨g, 0, none⟩) 0 0).ownBlock ∨ ∃ b, v6.ownBlock = some b ∧ (W.alloc (.cells #[] 49)).drew.heap.size ≤ b) (hW : w.heap.size < W.heap.size := by assumption) : ∀ k, k ≤ w.heap.size → some k ≠ v6.ownBlock := by
  intro k hk e
  rcases hat with h | ⟨b, h, hb⟩
  · rw [h] at e
    injection e with e
    have e : k = g := e
    omega
  · rw [h] at e
    injection e with e
    have hb : (W.alloc (.cells #[] 49)).heap.size ≤ b := hb
    rw [World.size_alloc] at hb
    omega
theorem turn_k (turn : Int) (n : Nat) (h1 : 1 ≤ n) (h2 : n ≤ 140737488351232) : ∃ kk : Nat, (wrap64 (turn.tmod (n : Int) + (n : Int))).tmod (n : Int) = (kk : Int) ∧ kk < n := by
  have a1 := Int.tmod_lt_of_pos turn (show (0 : Int) < n by omega)
  have a2 := Int.lt_tmod_of_pos turn (show (0 : Int) < n by omega)
  have e : wrap64 (turn.tmod (n : Int) + (n : Int)) = turn.tmod (n : Int) + (n : Int) := by unfold wrap64; omega
  rw [e, Int.tmod_eq_emod_of_nonneg (by omega)]
  have b1 := Int.emod_nonneg (turn.tmod (n : Int) + (n : Int)) (show (n : Int) ≠ 0 by omega)
  have b2 := Int.emod_lt_of_pos (turn.tmod (n : Int) + (n : Int)) (show (0 : Int) < n by omega)
  exact ⟨((turn.tmod (n : Int) + (n : Int)) % (n : Int)).toNat, by omega, by omega⟩
theorem infoP : (Try.prog.info? 49).map (fun i => (i.zero, i.size, i.bytes)) = some (some (.agg #[.slice none 0 0, .slice none 0 0]), 2, 48) := by kernel_rfl
theorem nilN {W : World} {base g : Nat} (hg : W.heap[g]? = some (.cells #[] 49 (0, 0))) (hb : base ≤ g) : Kd.N k49 49 W base (fun _ => True) (.slice (some ⟨g, 0, none⟩) 0 0) [] :=
  Kd.R_N ⟨fun _ _ => trivial, [], ⟨rfl, .inr ⟨g, 0, #[], rfl, hb, hg, Nat.le_refl _, Nat.zero_le _, by simp, by simp⟩⟩, Reps.none _ _⟩
set_option maxRecDepth 100000 in
set_option maxHeartbeats 4000000 in
theorem turns_calls (A0 : Option Addr) (c0 : Nat) (q : List Int) (heads s : Int) (A2 : Option Addr) (c2 : Nat) (l : List P49) (turn : Int) (w : World) (hr0 : Kd.C (Kd.int .i8) w A0 q.length q) (hc0 : q.length ≤ c0) (hr2 : Kd.C k49 w A2 l.length l) (hc2 : l.length ≤ c2) (hG : PG l) (ht : -9223372036854775808 ≤ turn ∧ turn ≤ 9223372036854775807) :
    Calls Try.prog 6 #[.slice A0 q.length c0, .agg #[.int .i64 heads, .int .i64 s, .slice A2 l.length c2], .int .i64 turn] w fun e w' => e = .returned (.bool true) ∧ Below w.heap.size w w' := by
  have HG := Aside0.mk hG
  have HR0 := Aside0.mk (fun W (hB : Below w.heap.size w W) => And.intro (Kd.C_below hr0 hB) hc0)
  have HR2 := Aside0.mk (fun W (hB : Below w.heap.size w W) => And.intro (Kd.C_below hr2 hB) hc2)
  have HV2 := Aside0.mk (And.intro (fun W (hB : Below w.heap.size w W) => (Kd.F_below (Kd.C_F k49_heap hr2) hB : Kd.F k49 W (fun k_ => k_ < w.heap.size) A2 l.length l)) hc2)
  have HT := Go.Lib.hid ht
  clear hG hr0 hc0 hr2 hc2 ht
  obtain ⟨R, E, hRE⟩ : ∃ R E, lookL q heads (ksL l) (vsL l) s = (R, E) := ⟨_, _, rfl⟩
  have HRE := Aside0.mk hRE
  have zE : (E != E) = false := by simp
  clear hRE
  go_enter Try.func6, Try.ntmps6
  go_wp2_with fail
  obtain ⟨W0, hW0⟩ : ∃ W0, W0 = w.alloc (.cells #[.int .i64 heads, .int .i64 s, .slice A2 l.length c2] 43) := ⟨_, rfl⟩
  rw [← hW0]
  have B0 : Aside0 (Bx w W0 heads s (.slice A2 l.length c2)) := ⟨⟨by rw [hW0]; exact heap_alloc_new w _, by rw [hW0]; exact below_alloc (Below.refl _ w) _⟩⟩
  clear hW0
  have b0 := B0.out.c0
  have b1 := B0.out.c1
  have b2 := B0.out.c2
  have d0 := B0.out.drew.c0
  have d1 := B0.out.drew.c1
  have d2 := B0.out.drew.c2
  go_region_held3 (fun w' => w'.cell? ⟨w.heap.size, 0, none⟩ = some (.int .i64 heads) ∧ w'.cell? ⟨w.heap.size, 1, none⟩ = some (.int .i64 s) ∧ w'.cell? ⟨w.heap.size, 2, none⟩ = some (.slice A2 l.length c2)) (go_keep)
    (first
      | (go_at_call 20; refine (ref_c (HR0.out _ B1.out.2.bel).1 (HR0.out _ B1.out.2.bel).2 rfl (Kd.S_V B1.out.1) HG.out.len HG.out.i8 HRE.out).mono ?_; rintro e w2 ⟨v2, rfl, hv2, hB2⟩; have B2 := Aside0.mk (B1.out.2.kept hB2); have b0 := B2.out.c0; have b1 := B2.out.c1; have b2 := B2.out.c2; clear hv2 hB2)
      | (go_at_call 18; refine (pairs_c (HR2.out _ B0.out.drew.bel).1 (HR2.out _ B0.out.drew.bel).2 HG.out).mono ?_; rintro e w1 ⟨v1, rfl, hv1, hB1⟩; obtain ⟨A1, c1, rfl⟩ := Kd.S_slice hv1; have B1 := Aside0.mk (And.intro hv1 (B0.out.drew.kept hB1)); have e0 := B1.out.2.c0; have e1 := B1.out.2.c1; have e2 := B1.out.2.c2; clear hv1 hB1))
  have h0 : l.length = 0 → R = [] := fun h => by
    have hl : l = [] := List.length_eq_zero_iff.1 h
    have hR := HRE.out
    subst hl
    unfold lookL at hR
    by_cases c : lookE q heads (ksL []) (vsL []) s ≠ 0
    · rw [if_pos c] at hR
      injection hR with h1 h2
      exact h1.symm
    · obtain ⟨_, ⟨hf, _⟩, _⟩ := lookE_0 (Decidable.not_not.1 c)
      cases hf
  by_cases cn : l.length = 0
  · have hR0 := h0 cn
    subst hR0
    have z1 : ((l.length : Int) == 0) = true := by rw [cn]; rfl
    clear cn
    go_wp2_with (first
      | (go_at_call 13; refine awake_c.mono ?_; rintro e w4 ⟨rfl, hB4⟩; have B4 := Aside0.mk (B3.out.kept hB4); clear hB4)
      | (go_at_call 19; refine (look_c (HR0.out _ B2.out.bel).1 (HR0.out _ B2.out.bel).2 (Kd.V_mk HV2.out.2 (HV2.out.1 _ B2.out.bel)) HG.out.len HG.out.i8 HRE.out).mono ?_; rintro e w3 ⟨v3, rfl, hv3, hB3⟩; obtain ⟨A3, c3, rfl⟩ := Kd.R_slice hv3; have B3 := Aside0.mk (B2.out.kept hB3); clear hv3 hB3))
    go_ret
    exact ⟨rfl, B4.out.bel⟩
  · have z1 : ((l.length : Int) == 0) = false := beq_eq_false_iff_ne.2 (by omega)
    have z2 : (l.length : Int) ≠ 0 := by omega
    have CN := Go.Lib.hid cn
    clear cn
    go_wp2_with (first
      | (go_at_call 13; refine awake_c.mono ?_; rintro e w4 ⟨rfl, hB4⟩; have B4 := Aside0.mk (And.intro (Kd.R_below B3.out.1 hB4) (B3.out.2.kept hB4)); clear hB4)
      | (go_at_call 19; refine (look_c (HR0.out _ B2.out.bel).1 (HR0.out _ B2.out.bel).2 (Kd.V_mk HV2.out.2 (HV2.out.1 _ B2.out.bel)) HG.out.len HG.out.i8 HRE.out).mono ?_; rintro e w3 ⟨v3, rfl, hv3, hB3⟩; obtain ⟨A3, c3, rfl⟩ := Kd.R_slice hv3; have B3 := Aside0.mk (And.intro hv3 (B2.out.kept hB3)); clear hv3 hB3))
    obtain ⟨kk, hk, hkn⟩ := turn_k turn l.length (by have := CN.out; omega) (by have := HG.out.len; omega)
    rw [hk]
    clear hk
    have f0 := B4.out.2.drew.c0
    have f1 := B4.out.2.drew.c1
    have f2 := B4.out.2.drew.c2
    have y1 : 0 ≤ (kk : Int) := by omega
    have y2 : (kk : Int) ≤ (l.length : Int) := by omega
    have y3 : (kk : Int) ≤ (c2 : Int) := by have := (HR2.out _ B4.out.2.bel).2; omega
    have hck : ¬ c2 = kk := by have := (HR2.out _ B4.out.2.bel).2; omega
    have B5 := Aside0.mk ((B4.out.2.kept (below_alloc (Below.refl _ w4) (.cells #[] 49))).drew)
    have g0 := B5.out.c0
    have g1 := B5.out.c1
    have g2 := B5.out.c2
    have HN0 := Aside0.mk (nilN (W := (w4.alloc (.cells #[] 49)).drew) (base := w4.heap.size) (g := w4.heap.size) (heap_alloc_new w4 _) (Nat.le_refl _))
    have HB45 := Aside0.mk (show Below w4.heap.size w4 (w4.alloc (.cells #[] 49)).drew from (below_alloc (Below.refl _ w4) _).drew)
    have HFD := Aside0.mk (fun W (hB : Below w.heap.size w W) => (by
      have h := Kd.F_cut (m := kk) (c := c2) (HV2.out.1 W hB) (by omega) HV2.out.2
      rw [List.length_drop, if_neg hck] at h
      exact h : Kd.F k49 W (fun k_ => k_ < w.heap.size) (Option.map (fun x => x.add (kk * 2)) A2) (l.length - kk) (l.drop kk)))
    have HFT := Aside0.mk (fun W (hB : Below w.heap.size w W) => (by
      have h := Kd.F_take (m := kk) (HV2.out.1 W hB) (by omega)
      rw [List.length_take, Nat.min_eq_left (by omega)] at h
      exact h : Kd.F k49 W (fun k_ => k_ < w.heap.size) A2 kk (l.take kk)))
    obtain ⟨L2, hL2⟩ : ∃ L2, L2 = l.drop kk ++ l.take kk := ⟨_, rfl⟩
    have hp : L2.Perm l := by rw [hL2]; exact turn_perm l kk
    have HL2 := Aside0.mk hL2
    clear hL2
    have HLP := Aside0.mk (And.intro (show L2.length * 48 ≤ 140737488351232 by rw [hp.length_eq]; exact HG.out.len) (show ∀ r ∈ vsL L2, I8 r from fun r hr => HG.out.i8 r ((hp.map _).mem_iff.1 hr)))
    have HRP := Aside0.mk ((perm_look q heads hp s).trans HRE.out)
    have HLK := Aside0.mk (fun (W : World) (A7 : Option Addr) (c7 : Nat) (hn : Kd.N k49 49 W w4.heap.size (fun _ => True) (.slice A7 L2.length c7) L2) (hB : Below w.heap.size w W) => look_c (HR0.out _ hB).1 (HR0.out _ hB).2 (Kd.N_V hn) HLP.out.1 HLP.out.2 HRP.out)
    clear hp
    go_region_held3 (fun w' => w'.cell? ⟨w.heap.size, 0, none⟩ = some (.int .i64 heads) ∧ w'.cell? ⟨w.heap.size, 1, none⟩ = some (.int .i64 s) ∧ w'.cell? ⟨w.heap.size, 2, none⟩ = some (.slice A2 l.length c2)) (go_keep)
      (first
        | (go_at_call 19; refine (HLK.out _ _ _ B7.out.1 B7.out.2.1.bel).mono ?_; rintro e w8 ⟨v8, rfl, hv8, hB8⟩; obtain ⟨A8, c8, rfl⟩ := Kd.R_slice hv8; have B8 := Aside0.mk (And.intro hv8 (And.intro (B7.out.2.1.kept hB8) (B7.out.2.2.trans (hB8.mono B7.out.2.2.size)))); have g0 := B8.out.2.1.c0; have g1 := B8.out.2.1.c1; have g2 := B8.out.2.1.c2; clear hv8 hB8)
        | (refine Kd.N_append_rows_step k49 (w0 := w4) w4.heap.size (by rfl) (.tmp 64) (.tmp 68) 41 49 _ 48 rfl Try.underlying41 infoP rfl (by decide) (by omega) (.slice (some ⟨w4.heap.size, 0, none⟩) 0 0) [] (l.drop kk) _ _ _ (fun _ => True) (fun k_ => k_ < w.heap.size) rfl rfl HN0.out (HFD.out _ B5.out.bel) (fun k_ hk => ⟨trivial, fun e => by injection e with e; have h1 : k_ = w4.heap.size := e; have h2 := B4.out.2.bel.size; omega⟩) (fun _ _ => trivial) HB45.out HB45.out.size (by have := HG.out.len; rw [List.length_nil]; omega) ?_; intro v6 w6 hn6 hb6 hg6 hat6; have B6 := Aside0.mk (And.intro hn6 (And.intro (far6 (B4.out.2.lt) hat6 (B4.out.2.lt)) (And.intro (B5.out.grown hg6 (B4.out.2.bel.trans (hb6.mono B4.out.2.bel.size)) (fun e => by injection e with e; have h1 : w.heap.size = w4.heap.size := e; have h2 := B4.out.2.lt; omega)) hb6))); have g0 := B6.out.2.2.1.c0; have g1 := B6.out.2.2.1.c1; have g2 := B6.out.2.2.1.c2; clear hn6 hb6 hg6 hat6)
        | (refine Kd.N_append_rows_step k49 (w0 := w4) w4.heap.size (by rfl) (.tmp 69) (.tmp 73) 41 49 _ 48 rfl Try.underlying41 infoP rfl (by decide) (by omega) v6 ([] ++ l.drop kk) (l.take kk) _ _ _ (fun _ => True) (fun k_ => k_ < w.heap.size) rfl rfl B6.out.1 (HFT.out _ B6.out.2.2.1.bel) (fun k_ hk => ⟨trivial, B6.out.2.1 k_ (Nat.le_of_lt hk)⟩) (fun _ _ => trivial) B6.out.2.2.2 B6.out.2.2.2.size (by have := HG.out.len; rw [List.nil_append, List.length_drop]; omega) ?_; intro v7 w7 hn7 hb7 hg7 hat7; rw [List.nil_append, ← HL2.out] at hn7; obtain ⟨A7, c7, rfl⟩ := Kd.N_slice hn7; have B7 := Aside0.mk (And.intro hn7 (And.intro (B6.out.2.2.1.grown hg7 (B4.out.2.bel.trans (hb7.mono B4.out.2.bel.size)) (B6.out.2.1 _ (Nat.le_refl _))) hb7)); have g0 := B7.out.2.1.c0; have g1 := B7.out.2.1.c1; have g2 := B7.out.2.1.c2; clear hn7 hb7 hg7 hat7))
    have HQ := Aside0.mk (show R.length ≤ 64 by have h := lookL_len q heads (ksL l) (vsL l) s; rw [HRE.out] at h; exact h)
    have HC3 := Aside0.mk (Kd.C_below (Kd.R_reads' B4.out.1).2.2 B8.out.2.2)
    go_wp2_with (go_at_call 17; refine (rows_c HC3.out (Kd.R_reads' B4.out.1).2.1 (Kd.R_reads' B8.out.1).2.2 (Kd.R_reads' B8.out.1).2.1 HQ.out).mono ?_; rintro e w9 ⟨rfl, hB9⟩; have B9 := Aside0.mk hB9; clear hB9)
    go_ret
    exact ⟨rfl, B8.out.2.1.bel.trans (B9.out.below.mono B8.out.2.1.bel.size)⟩
end Go.Proofs.Ytmjepdhjginelaa.Tu
