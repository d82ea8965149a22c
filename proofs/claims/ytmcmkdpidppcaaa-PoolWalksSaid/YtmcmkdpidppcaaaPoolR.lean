/- PoolWalks: the law's walk. -/
import Derived.Deep.RegionWith
import Derived.Laws.EntriesVeiled
import Derived.Test.YtmcmkdpidppcaaaPoolQ
namespace Go.Proofs.Ytmcmkdpidppcaaa.St
open Go.Proofs Go.RowKit Go.Shelf Go.Proofs.YtmcmkdpidppcaaaW.PrintWords Go.Proofs.YtmcmkdpidppcaaaW.PrintLast Go.Proofs.YtmcmkdpidppcaaaW.PrintMore Go.Proofs.Ytmcmkdpidppcaaa.A Go.Proofs.Ytmcmkdpidppcaaa.Pure
attribute [local go_sem] Oper.semAt_some
/-- Behind some of the script. -/
structure Script (w W : World) (n b : Nat) (vs vf lv : Value) (L : List S66) (pB : Nat) (leave : Int) : Prop where
  duo : Duo w W n b vs vf lv L
  bE : Boxed W w.heap.size 3 (.int .i64 leave)
  bR : Boxed W (w.heap.size + 1) 4 (.bool false)
  bP : Boxed W pB 45 (.pointer (some ⟨b, 0, none⟩))
  bL : Boxed W (pB + 1) 32 lv
  far : ∀ k, Ar b vs vf lv k → k ≠ w.heap.size ∧ k ≠ w.heap.size + 1 ∧ k ≠ pB ∧ k ≠ pB + 1
  bel : Below w.heap.size w W
theorem Script.step {w W W' : World} {n b : Nat} {vs vf vf' lv lv' : Value} {L L' : List S66} {pB : Nat} {leave : Int} (h : Script w W n b vs vf lv L pB leave) (hD : Duo w W' n b vs vf' lv' L') (hown : vf'.ownBlock = vf.ownBlock) (hK : Kept W.drew W' (Ar b vs vf lv)) (hfar : ∀ k, lv'.ownBlock = some k → lv.ownBlock = some k ∨ W.drew.heap.size ≤ k) (hB : Below w.heap.size w W') (hsz : pB + 2 ≤ W.heap.size) (hpB : w.heap.size + 2 ≤ pB) : Script w (W'.setCell ⟨pB + 1, 0, none⟩ lv') n b vs vf' lv' L' pB leave := by
  have keep : ∀ k, (k = w.heap.size ∨ k = w.heap.size + 1 ∨ k = pB ∨ k = pB + 1) → W'.heap[k]? = W.heap[k]? := fun k hk => hK.2 k (show k < W.heap.size by omega) (fun ha => by have := h.far k ha; omega)
  have far' : ∀ k, Ar b vs vf' lv' k → k ≠ w.heap.size ∧ k ≠ w.heap.size + 1 ∧ k ≠ pB ∧ k ≠ pB + 1 := fun k hk => by
    rcases ar_step hown hfar k hk with e | e
    · exact h.far k e
    · have e : W.heap.size ≤ k := e
      omega
  have b1 : Boxed W' w.heap.size 3 (.int .i64 leave) := (keep _ (.inl rfl)).trans h.bE
  have b2 : Boxed W' (w.heap.size + 1) 4 (.bool false) := (keep _ (.inr (.inl rfl))).trans h.bR
  have b3 : Boxed W' pB 45 (.pointer (some ⟨b, 0, none⟩)) := (keep _ (.inr (.inr (.inl rfl)))).trans h.bP
  have b4 : Boxed W' (pB + 1) 32 lv := (keep _ (.inr (.inr (.inr rfl)))).trans h.bL
  refine ⟨hD.kept (P := fun k => k = pB + 1) ⟨by simp, fun k _ hn => Below.heap_setCell W' ⟨pB + 1, 0, none⟩ lv' k hn⟩ (fun k hk e => (far' k hk).2.2.2 e), b1.other (by omega) _, b2.other (by omega) _, b3.other (by omega) _, Boxed.set _ b4, far', hB.setCell (p := ⟨pB + 1, 0, none⟩) (show w.heap.size ≤ pB + 1 by omega) _⟩
set_option maxRecDepth 100000 in
set_option maxHeartbeats 40000000 in
theorem walks_yes (n : Nat) (hn : 1 ≤ n ∧ n ≤ 65536) (A : Option Addr) (c : Nat) (ops : List (Int × Int × Int)) (leave : Int) (w : World) (hO : OpRow w A ops) (hl : ops.length ≤ 4611686018427387904) :
    CallsIn Fence.wide 6 Try.prog 7 #[.int .i64 (n : Int), .slice A ops.length c, .int .i64 leave] w fun e w' => e = .returned (.bool true) ∧ Below w.heap.size w w' := by
  have HO := Aside0.mk hO
  have HL := Go.Lib.hid hl
  have HN := Go.Lib.hid hn
  have hs1 : (w.alloc (.cells #[.int .i64 leave] 3)).heap.size = w.heap.size + 1 := World.size_alloc _ _
  have hs2 : ((w.alloc (.cells #[.int .i64 leave] 3)).alloc (.cells #[.bool false] 4)).heap.size = w.heap.size + 2 := by rw [World.size_alloc, hs1]
  have HBg := Aside0.mk (begun_yes (w0 := w) (W := ((w.alloc (.cells #[.int .i64 leave] 3)).alloc (.cells #[.bool false] 4))) (below_alloc (below_alloc (Below.refl _ w) _) _) n hn)
  rw [hs2] at HBg
  clear hO hl hn
  refine callsIn_of_wp_marks Try.func7 rfl trivial ?_ rfl
  simp only [Try.ntmps7, List.size_toArray, List.length_cons, List.length_nil, Nat.reduceAdd, Nat.reduceSub, Array.replicate_succ, Array.replicate_zero, List.push_toArray, List.append_toArray, List.nil_append, List.cons_append]
  gi_wp2_with (refine ⟨trivial, ?_⟩; gi_at_call 17; refine (callsIn_wide.2 HBg.out).mono ?_; rintro e w1 ⟨b, vs, vf, lv, L, rfl, hD, hB1, hfar⟩; obtain ⟨gl, cl, rfl⟩ := hD.form; have H1 := Aside0.mk (And.intro hD (And.intro hB1 hfar)); clear hD hB1 hfar HBg)
  have hs3 : (w1.alloc (.cells #[.pointer (some ⟨b, 0, none⟩)] 45)).heap.size = w1.heap.size + 1 := World.size_alloc _ _
  obtain ⟨W0, hW0⟩ : ∃ W0, W0 = (w1.alloc (.cells #[.pointer (some ⟨b, 0, none⟩)] 45)).alloc (.cells #[.slice (some ⟨gl, 0, none⟩) n cl] 32) := ⟨_, rfl⟩
  have hsz := H1.out.2.1.size
  have bE : Boxed W0 w.heap.size 3 (.int .i64 leave) := by
    rw [hW0]
    have b1 : Boxed w1 w.heap.size 3 (.int .i64 leave) := (H1.out.2.1.block w.heap.size (by omega)).trans ((Boxed.new w 3 _).alloc _)
    exact (b1.alloc _).alloc _
  have bR : Boxed W0 (w.heap.size + 1) 4 (.bool false) := by
    have h := Boxed.new (w.alloc (.cells #[.int .i64 leave] 3)) 4 (.bool false)
    rw [hs1] at h
    rw [hW0]
    have b1 : Boxed w1 (w.heap.size + 1) 4 (.bool false) := (H1.out.2.1.block (w.heap.size + 1) (by omega)).trans h
    exact (b1.alloc _).alloc _
  have bP : Boxed W0 w1.heap.size 45 (.pointer (some ⟨b, 0, none⟩)) := by rw [hW0]; exact (Boxed.new w1 _ _).alloc _
  have bL : Boxed W0 (w1.heap.size + 1) 32 (.slice (some ⟨gl, 0, none⟩) n cl) := by
    have h := Boxed.new (w1.alloc (.cells #[.pointer (some ⟨b, 0, none⟩)] 45)) 32 (.slice (some ⟨gl, 0, none⟩) n cl)
    rw [hs3] at h
    rw [hW0]
    exact h
  have S0 : Aside0 (Script w W0 n b vs vf (.slice (some ⟨gl, 0, none⟩) n cl) L w1.heap.size leave) := by
    have hb1 : Below w.heap.size w w1 := (below_alloc (below_alloc (Below.refl _ w) _) _).trans (H1.out.2.1.mono (by omega))
    have hk : Kept w1 W0 (fun _ => False) := by rw [hW0]; exact ((Kept.refl w1 _).alloc _).alloc _
    refine ⟨⟨H1.out.1.kept hk (fun _ _ h => h), bE, bR, bP, bL, fun k hk => ?_, by rw [hW0]; exact below_alloc (below_alloc hb1 _) _⟩⟩
    have h1 := H1.out.2.2 k hk
    have h2 := (H1.out.1.area k hk).2
    omega
  have hW1 : w.heap.size + 2 ≤ w1.heap.size ∧ w1.heap.size + 2 ≤ W0.heap.size := ⟨by omega, by rw [hW0, World.size_alloc, hs3]; omega⟩
  rw [← hW0]
  clear hW0 bE bR bP bL hsz hs1 hs2 hs3 H1
  gi_wp2
  gi_loopg [11] (ops.length + 1) (fun kx s11 wr => ∃ (i : Nat) (vf : Value) (gl cl : Nat) (L : List S66), s11 = .int .i64 (i : Int) ∧ Hid (i ≤ ops.length ∧ ops.length < i + kx) ∧ Aside0 (Script w wr n b vs vf (.slice (some ⟨gl, 0, none⟩) n cl) L w1.heap.size leave ∧ w1.heap.size + 2 ≤ wr.heap.size))
  case atStart => exact ⟨0, vf, gl, cl, L, rfl, ⟨Nat.zero_le _, by omega⟩, ⟨S0.out, hW1.2⟩⟩
  case round =>
    clear S0
    obtain ⟨i, vf1, gl1, cl1, L1, rfl, hi, H1⟩ := hrel
    have cE := H1.out.1.bE.cell
    have cP := H1.out.1.bP.cell
    have cL := H1.out.1.bL.cell
    have fL := H1.out.1.bL.frozen
    by_cases ci : i < ops.length
    · have hR := HO.out.kept H1.out.1.bel
      obtain ⟨ad, rfl, h0, h1, h2⟩ := hR i ci
      obtain ⟨x0, e0⟩ : ∃ x, x = (ops.getD i (0, 0, 0)).1 := ⟨_, rfl⟩
      obtain ⟨x1, e1⟩ : ∃ x, x = (ops.getD i (0, 0, 0)).2.1 := ⟨_, rfl⟩
      obtain ⟨x2, e2⟩ : ∃ x, x = (ops.getD i (0, 0, 0)).2.2 := ⟨_, rfl⟩
      rw [← e0] at h0
      rw [← e1] at h1
      rw [← e2] at h2
      have z1 : decide ((i : Int) < (ops.length : Int)) = true := decide_eq_true (by omega)
      have z3 : 0 ≤ (i : Int) := by omega
      have z4 : (i : Int) < (ops.length : Int) := by omega
      have z5 : wrap64 ((i : Int) + 1) = ((i + 1 : Nat) : Int) := by have := HL.out; unfold wrap64; omega
      have CI := Go.Lib.hid ci
      have HG : Aside0 (∀ W, Below w.heap.size w W → W.cell? (ad.add (i * 3)) = some (.int .i64 x0) ∧ W.cell? ⟨(ad.add (i * 3)).block, (ad.add (i * 3)).off + 1, none⟩ = some (.int .i64 x1) ∧ W.cell? ⟨(ad.add (i * 3)).block, (ad.add (i * 3)).off + 2, none⟩ = some (.int .i64 x2)) := ⟨fun W hW => by
        obtain ⟨ad', e, q0, q1, q2⟩ := (HO.out.kept hW) i ci
        injection e with e
        subst e
        exact ⟨q0.trans (by rw [e0]), q1.trans (by rw [e1]), q2.trans (by rw [e2])⟩⟩
      have HGB : Aside0 ((ad.add (i * 3)).block ≠ w1.heap.size + 1) := ⟨by
        obtain ⟨ad', e, q0, _⟩ := HO.out i ci
        injection e with e
        subst e
        have := World.block_lt_of_cell? w _ q0
        omega⟩
      clear hR e0 e1 e2 ci
      have hbd : Below wr.heap.size wr wr.drew := (Below.refl _ wr).drew
      have HD := Aside0.mk (And.intro (H1.out.1.duo.kept (Kept.of_below hbd (fun _ => False)) (fun _ _ h => h)) (H1.out.1.bel.trans (hbd.mono H1.out.1.bel.size)))
      clear hbd
      gi_wp2
      refine wpIn_wide.2 (wp_mono (Q := noPanic _) ?_ noPanic_to)
      go_region_with
        ((go_at_call 22; refine (step_calls HD.out.1 HD.out.2 x0 x1 x2).mono ?_; rintro e w2 ⟨lv3, vf3, L3, rfl, hD, hown, hK, hfar, hB2⟩; obtain ⟨gl3, cl3, rfl⟩ := hD.form; have hbL : Boxed w2 (w1.heap.size + 1) 32 (.slice (some ⟨gl1, 0, none⟩) n cl1) := (hK.2 _ H1.out.1.bL.lt (fun h => (H1.out.1.far _ h).2.2.2 rfl)).trans H1.out.1.bL; have hbP : Boxed w2 w1.heap.size 45 (.pointer (some ⟨b, 0, none⟩)) := (hK.2 _ H1.out.1.bP.lt (fun h => (H1.out.1.far _ h).2.2.1 rfl)).trans H1.out.1.bP; have hcL := hbL.cell; have hfL := hbL.frozen; have H2 := Aside0.mk (And.intro (And.intro hD hbL) (And.intro (And.intro hown hK) (And.intro hfar hB2))); clear hD hown hK hfar hB2 hbL hbP))
      all_goals
        simp only [noPanic]
        gi_wp2
        go_roundg (ops.length - i)
        case measure => have := hi.2; have := CI.out; omega
        case rel => exact ⟨i + 1, vf3, gl3, cl3, L3, congrArg (Value.int .i64) z5, ⟨CI.out, by have := CI.out; omega⟩, ⟨H1.out.1.step H2.out.1.1 H2.out.2.1.1 H2.out.2.1.2 H2.out.2.2.1 H2.out.2.2.2 H1.out.2 hW1.1, by have := H1.out.2; have h9 : wr.heap.size ≤ w2.heap.size := H2.out.2.1.2.1; simp; omega⟩⟩
    · have z1 : decide ((i : Int) < (ops.length : Int)) = false := decide_eq_false (by omega)
      have z2 : decide (i < ops.length) = false := decide_eq_false ci
      obtain ⟨wa, hwa⟩ : ∃ wa, wa = wr := ⟨_, rfl⟩
      subst hwa
      obtain ⟨F, hp, hr, hf⟩ := H1.out.1.duo.pool
      have hSl := toS_len L1
      have hlen := H1.out.1.duo.len
      have hbig := H1.out.1.duo.big
      have HAC := Aside0.mk (all_calls hp (by omega) (by omega))
      have HF := Aside0.mk (And.intro hp (And.intro hr hf))
      have HLN := Aside0.mk (And.intro hSl (And.intro hlen hbig))
      clear hp hr hf hSl hlen hbig ci hi
      gi_wp2_with (refine ⟨trivial, ?_⟩; gi_at_call 25; refine (callsIn_wide.2 HAC.out).mono ?_; rintro e w3 ⟨g, v, rfl, hgg, hg3, hown3, hB3⟩; subst hgg; have heq := eqf #[.pointer (some ⟨wa.heap.size, 0, none⟩)])
      -- LOOP1
      have hlt3 : wa.heap.size + 1 ≤ w3.heap.size := by have := (Array.getElem?_eq_some_iff.1 hg3).1; omega
      have hsA : (w3.alloc (.cells #[.func (.func 43) #[] #[.pointer (some ⟨wa.heap.size, 0, none⟩)]] 63)).heap.size = w3.heap.size + 1 := World.size_alloc _ _
      obtain ⟨gn, capn, rfl, hgn, hgn2⟩ := own_some hown3 (by have := HLN.out.1; have := HLN.out.2.1; have := HLN.out.2.2.1; omega)
      obtain ⟨cur, hcur, hcs⟩ : ∃ cur, w3.heap[gn]? = some (.cells cur 89 (0, 0)) ∧ ∀ (j : Nat) (u : Value), (slotCells (toS L1))[j]? = some u → cur[j]? = some u := by
        rcases hown3.2 with ⟨h', _⟩ | ⟨g', cap', cur, h', _, hh, _⟩
        · cases h'
        · injection h' with h1
          injection h1 with h1
          injection h1 with h1
          subst h1
          refine ⟨cur, hh, fun j u hj => ?_⟩
          have hc := own_cell hown3 j u hj
          rwa [cell_of_row w3 gn j cur _ (0, 0) hh] at hc
      obtain ⟨V0, hV0⟩ : ∃ V0, V0 = (w3.alloc (.cells #[.func (.func 43) #[] #[.pointer (some ⟨wa.heap.size, 0, none⟩)]] 63)).alloc (.cells #[.int .i64 0] 3) := ⟨_, rfl⟩
      have hk03 : ∀ k, k < w3.heap.size → V0.heap[k]? = w3.heap[k]? := fun k hk => by rw [hV0, heap_alloc_old _ _ (by rw [hsA]; omega), heap_alloc_old _ _ hk]
      have hk0 : ∀ k, k < wa.heap.size → V0.heap[k]? = wa.heap[k]? := fun k hk => (hk03 k (by omega)).trans (hB3.block k hk)
      have hsV : V0.heap.size = w3.heap.size + 2 := by rw [hV0, World.size_alloc, hsA]
      have bNow : Boxed V0 wa.heap.size 85 (.slice (some ⟨gn, 0, none⟩) (toS L1).length capn) := (hk03 _ (by omega)).trans hg3
      have bRow : V0.heap[gn]? = some (.cells cur 89 (0, 0)) := (hk03 _ hgn2).trans hcur
      have bAll : Boxed V0 w3.heap.size 63 (.func (.func 43) #[] #[.pointer (some ⟨wa.heap.size, 0, none⟩)]) := by rw [hV0]; exact (Boxed.new w3 _ _).alloc _
      have bCnt : Boxed V0 (w3.heap.size + 1) 3 (.int .i64 ((0 : Nat) : Int)) := by
        have h := Boxed.new (w3.alloc (.cells #[.func (.func 43) #[] #[.pointer (some ⟨wa.heap.size, 0, none⟩)]] 63)) 3 (.int .i64 0)
        rw [hsA] at h
        rw [hV0]
        exact h
      have bE : Boxed V0 w.heap.size 3 (.int .i64 leave) := (hk0 _ H1.out.1.bE.lt).trans H1.out.1.bE
      have bR : Boxed V0 (w.heap.size + 1) 4 (.bool false) := (hk0 _ H1.out.1.bR.lt).trans H1.out.1.bR
      have bP : Boxed V0 w1.heap.size 45 (.pointer (some ⟨b, 0, none⟩)) := (hk0 _ H1.out.1.bP.lt).trans H1.out.1.bP
      have bL : Boxed V0 (w1.heap.size + 1) 32 (.slice (some ⟨gl1, 0, none⟩) n cl1) := (hk0 _ H1.out.1.bL.lt).trans H1.out.1.bL
      have rowL : Kd.R k66 66 V0 w.heap.size (fun k => (Value.slice (some ⟨gl1, 0, none⟩) n cl1).ownBlock = some k) (.slice (some ⟨gl1, 0, none⟩) n cl1) L1 := Kd.R_step H1.out.1.duo.row (fun k _ hk => hk0 k hk)
      have hBV : Below w.heap.size w V0 := by rw [hV0]; exact below_alloc (below_alloc (H1.out.1.bel.trans (hB3.mono H1.out.1.bel.size)) _) _
      obtain ⟨hglb, hgll⟩ : w.heap.size ≤ gl1 ∧ gl1 < wa.heap.size := H1.out.1.duo.area gl1 (.inr rfl)
      obtain ⟨cellsL, hgc⟩ : ∃ cells, V0.heap[gl1]? = some (.cells cells 66 (0, 0)) := by
        obtain ⟨inner, ho⟩ := Kd.R_own rowL
        exact own_typed ho gl1 rfl
      have live0 : Live w.heap.size n b vs vf1 V0 := ⟨vf1, toS L1, F, HF.out.1.keptS (P := fun _ => False) ⟨by omega, fun k hk _ => hk0 k hk⟩ (fun _ _ h => h), HF.out.2.1, HF.out.2.2, HLN.out.1.trans HLN.out.2.1, rfl⟩
      have hfarL : gl1 ≠ w.heap.size ∧ gl1 ≠ w.heap.size + 1 ∧ gl1 ≠ w1.heap.size ∧ gl1 ≠ w1.heap.size + 1 := H1.out.1.far gl1 (.inr rfl)
      have hfoot : ∀ k, Foot b vs vf1 k → k < wa.heap.size ∧ k ≠ gl1 ∧ k ≠ w.heap.size ∧ k ≠ w.heap.size + 1 ∧ k ≠ w1.heap.size ∧ k ≠ w1.heap.size + 1 := fun k hk => ⟨(HF.out.1.foot k hk).2, fun e => H1.out.1.duo.apart gl1 rfl (by rw [← e]; exact hk), H1.out.1.far k (.inl hk)⟩
      obtain ⟨Q, hQ⟩ : ∃ Q : Nat → Prop, Q = fun k => k = w.heap.size ∨ k = w.heap.size + 1 ∨ k = w1.heap.size ∨ k = w1.heap.size + 1 ∨ k = w3.heap.size ∨ k = wa.heap.size ∨ k = gn ∨ k = gl1 := ⟨_, rfl⟩
      have hQc : ∀ k, Q k → ∃ c t fr, V0.heap[k]? = some (.cells c t fr) := by
        rw [hQ]
        rintro k (rfl | rfl | rfl | rfl | rfl | rfl | rfl | rfl)
        · exact ⟨_, _, _, bE⟩
        · exact ⟨_, _, _, bR⟩
        · exact ⟨_, _, _, bP⟩
        · exact ⟨_, _, _, bL⟩
        · exact ⟨_, _, _, bAll⟩
        · exact ⟨_, _, _, bNow⟩
        · exact ⟨_, _, _, bRow⟩
        · exact ⟨_, _, _, hgc⟩
      have hQs : ∀ k, Q k → w.heap.size ≤ k ∧ k < w3.heap.size + 1 := by
        have hx := hW1.1
        have hy := H1.out.2
        rw [hQ]
        rintro k (rfl | rfl | rfl | rfl | rfl | rfl | rfl | rfl) <;> omega
      have hQf : ∀ k, Foot b vs vf1 k → ¬ Q k := fun k hk hq => by
        have h1 := hfoot k hk
        rw [hQ] at hq
        rcases hq with rfl | rfl | rfl | rfl | rfl | rfl | rfl | rfl <;> omega
      have q_all : Q w3.heap.size ∧ Q wa.heap.size ∧ Q gn ∧ Q gl1 ∧ Q w.heap.size ∧ Q (w.heap.size + 1) ∧ Q w1.heap.size ∧ Q (w1.heap.size + 1) := by rw [hQ]; simp
      have LEN : Hid ((toS L1).length = n ∧ L1.length = n ∧ 0 < n ∧ n ≤ 65536) := ⟨HLN.out.1.trans HLN.out.2.1, HLN.out.2.1, HLN.out.2.2.1, HLN.out.2.2.2⟩
      rw [← hV0]
      have HV : Aside0 (Inv w V0 Q n b vs vf1 V0) := ⟨⟨fun _ _ => rfl, live0, hBV⟩⟩
      have nQ : ∀ k, w3.heap.size + 1 ≤ k → ¬ Q k ∧ ¬ Foot b vs vf1 k := fun k hk => ⟨fun hq => by have := (hQs k hq).2; omega, fun hf => by have := (hfoot k hf).1; omega⟩
      have hsz3 : w.heap.size ≤ w3.heap.size ∧ wa.heap.size < w3.heap.size := ⟨by have := H1.out.1.bel.size; omega, by omega⟩
      have NQ := Aside0.mk nQ
      have HQ := Aside0.mk (And.intro hQc (And.intro hQf q_all))
      have HCL : Aside0 (∀ W, Inv w V0 Q n b vs vf1 W → ∀ j, j < n → W.cell? ⟨gl1, j * 2, none⟩ = some (.bool ((toS L1).getD j (false, 0)).1) ∧ W.cell? ⟨gl1, j * 2 + 1, none⟩ = some (.int .i64 ((toS L1).getD j (false, 0)).2)) := ⟨fun W hi j hj => by
        have hrow := Kd.R_move rowL (w1 := W) (fun k hk => by
          have e : gl1 = k := (by injection hk)
          rw [← e]
          exact hi.1 gl1 q_all.2.2.2.1)
        obtain ⟨gl', c', e, _, _, _, hc⟩ := list_cells hrow (by have := LEN.out; omega)
        injection e with e1 e2 e3
        injection e1 with e1
        injection e1 with e1
        subst e1
        exact hc j (by have := LEN.out; omega)⟩
      have HRW : Aside0 (∀ W, Inv w V0 Q n b vs vf1 W → Kd.C k66 W (some ⟨gl1, 0, none⟩) L1.length L1 ∧ L1.length ≤ cl1) := ⟨fun W hi => by
        have hrow := Kd.R_move rowL (w1 := W) (fun k hk => by
          have e : gl1 = k := (by injection hk)
          rw [← e]
          exact hi.1 gl1 q_all.2.2.2.1)
        obtain ⟨h1, h2, h3⟩ := Kd.R_reads' hrow
        exact ⟨h3, by rw [← h1]; exact h2⟩⟩
      have HTK : Aside0 (∀ W, Inv w V0 Q n b vs vf1 W → ∀ q : Int, Calls Try.prog 26 #[.slice (some ⟨gl1, 0, none⟩) n cl1, .int .i64 q] W fun e w' => e = .returned (.bool (hasL (toS L1) q)) ∧ Drawn0 W w') := ⟨fun W hi q => by
        have h := r05_Taken.calls (some ⟨gl1, 0, none⟩) cl1 L1 q _ W (HRW.out W hi).1 (HRW.out W hi).2 (taken_is L1 q)
        rw [LEN.out.2.1] at h
        exact h⟩
      obtain ⟨KU, hKU⟩ := used_ref L1 (by have := LEN.out; omega)
      have HUS : Aside0 (∀ W, Inv w V0 Q n b vs vf1 W → Calls Try.prog 23 #[.slice (some ⟨gl1, 0, none⟩) n cl1] W fun e w' => e = .returned (.int .i64 (((takenTo (toS L1) (toS L1).length).length : Nat) : Int)) ∧ Drawn0 W w') := ⟨fun W hi => by
        have h := r05_Used.calls KU (some ⟨gl1, 0, none⟩) cl1 L1 _ W (HRW.out W hi).1 (HRW.out W hi).2 (hKU KU (Nat.le_refl _))
        rw [LEN.out.2.1] at h
        rw [LEN.out.1]
        exact h⟩
      clear hKU
      have HB := Aside0.mk (And.intro (And.intro bE bR) (And.intro (And.intro bP bL) (And.intro bAll rowL)))
      clear HAC hg3 hown3 hB3 hcur heq hV0 hk03 hk0 hsA HF hfoot hfarL hQ hgc cellsL H1 hQf q_all nQ live0 hBV bE bR bP bL rowL hglb hgll HLN hQs
      refine wpIn_rangeFunc_ownG rfl (by omega) (gf := 43) (lb := #[.pointer (some ⟨wa.heap.size, 0, none⟩)]) rfl trivial (enters_of Try.func43 (by kernel_rfl) rfl)
        (all_stopsM 5 (by decide) wa.heap.size gn w.heap.size (toS L1) capn cur V0 (by have := LEN.out; omega) hcs (by omega) (by omega) bNow bRow) kq2_t (kq2_b (by omega)) (Below.refl _ _) (fun _ => rfl)
        (fun (pre : List (Int × Int)) (W : World) => Boxed W (w3.heap.size + 1) 3 (.int .i64 ((pre.length : Nat) : Int)) ∧ Inv w V0 Q n b vs vf1 W)
        (fun c _ W => c = .exit 2 ∧ Inv w V0 Q n b vs vf1 W)
        (OwnFrom.and (Own.from (boxed_own (w3.heap.size + 1) 3 (fun (pre : List (Int × Int)) => .int .i64 ((pre.length : Nat) : Int))) _) (inv_own hQc (by omega)))
        (fun c => OwnFrom.and (ownFrom_pure _ (fun _ => c = .exit 2)) (inv_own hQc (by omega)))
        ⟨bCnt, HV.out⟩
        (fun x => { tmps := #[.int .i64 (n : Int), .slice A ops.length c, .int .i64 leave, undef, undef, .pointer (some ⟨w.heap.size, 0, none⟩), .pointer (some ⟨w.heap.size + 1, 0, none⟩), .pointer (some ⟨w1.heap.size, 0, none⟩), .pointer (some ⟨w1.heap.size + 1, 0, none⟩), .bool true, u10, .int .i64 (i : Int), .pointer (some ⟨w3.heap.size, 0, none⟩), .pointer (some ⟨w3.heap.size + 1, 0, none⟩), undef, undef, undef, undef, undef, undef, .tuple #[.pointer (some ⟨b, 0, none⟩), .slice (some ⟨gl, 0, none⟩) n cl, .bool true, .bool true], .int .i64 (n : Int), .tuple #[.pointer (some ⟨b, 0, none⟩), .slice (some ⟨gl, 0, none⟩) n cl, .bool true, .bool true], .pointer (some ⟨b, 0, none⟩), .slice (some ⟨gl, 0, none⟩) n cl, .bool true, .bool true, .bool true, .bool false, .bool false, .bool true, .bool false, .bool false, undef, .int .i64 (i : Int), .slice A ops.length c, .int .i64 (ops.length : Int), .bool false, u38, u39, u40, u41, u42, u43, u44, u45, u46, u47, u48, u49, u50, u51, .pointer (some ⟨b, 0, none⟩), .func (.func 43) #[] #[.pointer (some ⟨wa.heap.size, 0, none⟩)], .func (.func 43) #[] #[.pointer (some ⟨wa.heap.size, 0, none⟩)], .bool false, .func (.func 43) #[] #[.pointer (some ⟨wa.heap.size, 0, none⟩)], .int .i64 x.1, .int .i64 x.2, undef, undef, undef, undef, undef, undef, undef, undef, undef, undef, undef, undef, undef, undef, undef, undef, undef, undef, undef, undef, undef, undef, undef, undef, undef, undef, undef, undef, undef, undef, undef, undef, undef, undef, undef, undef, undef, undef, undef, undef, undef, undef, undef, undef, undef, undef, undef, undef, undef, undef, undef, undef, undef, undef, undef, undef, undef, undef, undef, undef, undef, undef, undef, undef, undef, undef, undef, undef, undef, undef, undef, undef, undef, undef, undef, undef, undef, undef, undef, undef, undef, undef, undef, undef, undef, undef, undef, undef, undef, undef], defers := [] }) ?assign ?body ?done ?stop
      case assign =>
        intro l x W K hK
        gi_wp2
        exact hK
      case body =>
        rintro l pre x W ⟨hb, hiv⟩ hlt
        have hc1 := hb.cell
        have hf1 := hb.frozen
        have hc2 := (hiv.get HQ.out.2.2.2.2.2.2.1 HB.out.1.1).cell
        have hsB := NQ.out (w3.heap.size + 1) (Nat.le_refl _)
        have hl65 : pre.length < 65536 := by have := LEN.out; omega
        have z5 : wrap64 (((pre.length : Nat) : Int) + 1) = (((pre ++ [x]).length : Nat) : Int) := by rw [List.length_append, List.length_singleton]; unfold wrap64; omega
        have HI := Aside0.mk (And.intro hb hiv)
        by_cases ce : ((pre.length : Nat) : Int) = leave
        · have z1 : (((pre.length : Nat) : Int) == leave) = true := beq_iff_eq.2 ce
          clear hb hiv ce
          gi_wp2
          exact ⟨KeepsFrom.refl _ _, rfl, HI.out.2⟩
        · have z1 : (((pre.length : Nat) : Int) == leave) = false := beq_eq_false_iff_ne.2 ce
          clear hb hiv ce
          gi_wp2
          have hi2 := HI.out.2.put (B := w3.heap.size + 1) (show w.heap.size ≤ w3.heap.size + 1 by omega) hsB.1 hsB.2 (.int .i64 (((pre.length : Nat) : Int) + 1))
          refine ⟨(KeepsOthers.setCell _ _ _).from _, HI.out.2.kq hi2 ((Below.refl w.heap.size W).setCell (p := ⟨w3.heap.size + 1, 0, none⟩) (show w.heap.size ≤ w3.heap.size + 1 by omega) _) HQ.out.2.2.2.1 HQ.out.2.2.2.2.1, ?_, hi2⟩
          have e : (((pre ++ [x]).length : Nat) : Int) = ((pre.length : Nat) : Int) + 1 := by rw [List.length_append, List.length_singleton]; omega
          rw [e]
          exact Boxed.set _ HI.out.1
      case done =>
        rintro D ys W hD _ ⟨_, hiv⟩ hK
        have hbA := hiv.get HQ.out.2.2.1 HB.out.2.2.1
        have hcA : ∀ o, (W.alloc o).cell? ⟨w3.heap.size, 0, none⟩ = some (.func (.func 43) #[] #[.pointer (some ⟨wa.heap.size, 0, none⟩)]) := fun o => (hbA.alloc o).cell
        have H5 := Aside0.mk (And.intro hiv hK)
        have hDW : D < W.heap.size := (Array.getElem?_eq_some_iff.1 hK).1
        clear hiv hK hbA
        gi_wp2
        obtain ⟨V1, hV1⟩ : ∃ V1, V1 = W.alloc (.cells #[.int .i64 0] 3) := ⟨_, rfl⟩
        have hsV1 : V1.heap.size = W.heap.size + 1 := by rw [hV1, World.size_alloc]
        have hiv1 : Inv w V0 Q n b vs vf1 V1 := by rw [hV1]; exact H5.out.1.below (below_alloc (Below.refl _ W) _) HQ.out.1
        have hK1 : V1.heap[D]? = some (.deferred (some [])) := by rw [hV1]; exact (heap_alloc_old W _ hDW).trans H5.out.2
        have bO : Boxed V1 W.heap.size 3 (.int .i64 ((0 : Nat) : Int)) := by rw [hV1]; exact Boxed.new W _ _
        have hWV : V0.heap.size ≤ D := hD
        have hnow1 := hiv1.get HQ.out.2.2.2.1 bNow
        have hrow1 := (hiv1.1 gn HQ.out.2.2.2.2.1).trans bRow
        rw [← hV1]
        clear hV1 hcA H5
        have hwW : w.heap.size ≤ W.heap.size := by omega
        have hnW : wa.heap.size < W.heap.size := by omega
        have hgW : gn < W.heap.size := by omega
        have HWW := Go.Lib.hid (And.intro hwW (And.intro hnW hgW))
        clear hwW hnW hgW
        have HW3 : Aside0 (w3.heap.size + 1 ≤ W.heap.size) := ⟨by omega⟩
        refine wpIn_rangeFunc_ownH rfl (by omega) (gf := 43) (lb := #[.pointer (some ⟨wa.heap.size, 0, none⟩)]) rfl trivial (enters_of Try.func43 (by kernel_rfl) rfl)
          (all_stopsM 5 (by decide) wa.heap.size gn w.heap.size (toS L1) capn cur V1 (by have := LEN.out; omega) hcs (by omega) (by omega) hnow1 hrow1) kq2_t (kq2_b (by omega)) (Below.refl _ _) (fun _ => rfl)
          (fun (pre : List (Int × Int)) (W2 : World) => (∃ a : Nat, Boxed W2 W.heap.size 3 (.int .i64 (a : Int)) ∧ (runW (toS L1) pre = some a ∧ a ≤ n)) ∧ (Inv w V0 Q n b vs vf1 W2 ∧ W2.heap[D]? = some (.deferred (some []))))
          (fun _ pre _ => runW (toS L1) pre = none)
          (OwnFrom.and (Own.from (boxed_ex_own W.heap.size 3 (fun pre a => runW (toS L1) pre = some a ∧ a ≤ n)) _) (OwnFrom.and (inv_own hQc (by omega)) (fun _ _ _ _ hs hg hr => (hg.block D (Array.getElem?_eq_some_iff.1 hs).1 (fun e => by have := (hr D e.symm).1; omega)).trans hs)))
          (fun _ _ _ _ _ hs _ _ => hs)
          ⟨⟨0, bO, rfl, Nat.zero_le _⟩, hiv1, hK1⟩
          (fun x a' _ => a' = { tmps := #[.int .i64 (n : Int), .slice A ops.length c, .int .i64 leave, undef, undef, .pointer (some ⟨w.heap.size, 0, none⟩), .pointer (some ⟨w.heap.size + 1, 0, none⟩), .pointer (some ⟨w1.heap.size, 0, none⟩), .pointer (some ⟨w1.heap.size + 1, 0, none⟩), .bool true, u10, .int .i64 (i : Int), .pointer (some ⟨w3.heap.size, 0, none⟩), .pointer (some ⟨w3.heap.size + 1, 0, none⟩), .pointer (some ⟨W.heap.size, 0, none⟩), .int .i64 x.1, .int .i64 x.2, undef, undef, undef, .tuple #[.pointer (some ⟨b, 0, none⟩), .slice (some ⟨gl, 0, none⟩) n cl, .bool true, .bool true], .int .i64 (n : Int), .tuple #[.pointer (some ⟨b, 0, none⟩), .slice (some ⟨gl, 0, none⟩) n cl, .bool true, .bool true], .pointer (some ⟨b, 0, none⟩), .slice (some ⟨gl, 0, none⟩) n cl, .bool true, .bool true, .bool true, .bool false, .bool false, .bool true, .bool false, .bool false, undef, .int .i64 (i : Int), .slice A ops.length c, .int .i64 (ops.length : Int), .bool false, u38, u39, u40, u41, u42, u43, u44, u45, u46, u47, u48, u49, u50, u51, .pointer (some ⟨b, 0, none⟩), .func (.func 43) #[] #[.pointer (some ⟨wa.heap.size, 0, none⟩)], .func (.func 43) #[] #[.pointer (some ⟨wa.heap.size, 0, none⟩)], .bool false, .func (.func 43) #[] #[.pointer (some ⟨wa.heap.size, 0, none⟩)], undef, undef, undef, undef, undef, undef, undef, .func (.func 43) #[] #[.pointer (some ⟨wa.heap.size, 0, none⟩)], .int .i64 x.1, .int .i64 x.2, undef, undef, undef, undef, undef, undef, undef, undef, undef, undef, undef, undef, undef, undef, undef, undef, undef, undef, undef, undef, undef, undef, undef, undef, undef, undef, undef, undef, undef, undef, undef, undef, undef, undef, undef, undef, undef, undef, undef, undef, undef, undef, undef, undef, undef, undef, undef, undef, undef, undef, undef, undef, undef, undef, undef, undef, undef, undef, undef, undef, undef, undef, undef, undef, undef, undef, undef, undef, undef, undef, undef, undef, undef, undef, undef, undef, undef, undef, undef, undef, undef, undef], defers := [] }) (fun _ _ _ _ _ _ hs _ _ => hs) ?assign2 ?body2 ?done2 ?stop2
        case assign2 =>
          intro l pre x W2 K hi2 hK
          gi_wp2
          exact hK _ _ (KeepsFrom.refl _ _) ⟨Below.refl _ _, fun _ _ _ _ h => h⟩ hi2 rfl
        case body2 =>
          rintro l pre x a' W2 hl2 ⟨r, hr⟩ ⟨⟨a, ha, hrun, han⟩, hiv, hKD⟩ rfl hlt
          have hsO := NQ.out W.heap.size (by omega)
          have HDW := Go.Lib.hid (And.intro hDW hsV1)
          have HW2 := Go.Lib.hid hiv.2.2.size
          have HI2 := Aside0.mk hiv
          have HFD : Aside0 (¬ Foot b vs vf1 D) := ⟨fun h => by
            obtain ⟨_, _, cc, tt, hcc⟩ := hiv1.2.1.foot D h
            rw [hK1] at hcc
            cases hcc⟩
          have HFT := Aside0.mk (fun k hk => (hiv1.2.1.foot k hk).2.1)
          clear hlt3 hsV hgn hgn2 hW1 hsz3 hWV hD hDW hsV1
          gi_wp2
          gi_loopg [] (n + 1 - a) (fun kx wq => ∃ i2 : Nat, Boxed wq W.heap.size 3 (.int .i64 (i2 : Int)) ∧ (i2 ≤ n ∧ skip (toS L1) i2 = skip (toS L1) a ∧ n < i2 + kx) ∧ (Inv w V0 Q n b vs vf1 wq ∧ wq.heap[D]? = some (.deferred (some []))) ∧ KeepsOthers W2 wq ∧ Below w.heap.size W2 wq ∧ (∃ r, wq.heap[l]? = some (.loop r)))
          case atStart => exact ⟨a, ha, ⟨han, rfl, by omega⟩, ⟨hiv, hKD⟩, KeepsOthers.refl W2, Below.refl _ W2, ⟨r, hr⟩⟩
          case round =>
            obtain ⟨i2, hi2, ⟨hin, hsk, hik⟩, ⟨hiv2, hKD2⟩, hko, hbo, hr2⟩ := hrel
            have hcO := hi2.cell
            have hfO := hi2.frozen
            have hcL := (hiv2.get HQ.out.2.2.2.2.2.2.2.2.2 HB.out.2.1.2).cell
            have hcR := (hiv2.get HQ.out.2.2.2.2.2.2.2.1 HB.out.1.2).cell
            have hfR := (hiv2.get HQ.out.2.2.2.2.2.2.2.1 HB.out.1.2).frozen
            have K0 := Aside0.mk (And.intro (And.intro hi2 hiv2) (And.intro hKD2 (And.intro hko (And.intro hbo hr2))))
            have K2 : Hid (i2 ≤ n ∧ skip (toS L1) i2 = skip (toS L1) a ∧ n < i2 + gk) := ⟨hin, hsk, hik⟩
            clear hi2 hiv2 hKD2 hko hbo hr2 hsk hik ha hiv hKD hr
            by_cases c1 : i2 < n
            · obtain ⟨q0, q1⟩ := HCL.out wr K0.out.1.2 i2 c1
              have z1 : decide ((i2 : Int) < (n : Int)) = true := decide_eq_true (by omega)
              have z2 : ((i2 : Int) == (n : Int)) = false := beq_eq_false_iff_ne.2 (by omega)
              have z3 : 0 ≤ (i2 : Int) := by omega
              have z4 : (i2 : Int) < (n : Int) := by omega
              have z5 : wrap64 ((i2 : Int) + 1) = ((i2 + 1 : Nat) : Int) := by have := LEN.out; unfold wrap64; omega
              have C1 := Go.Lib.hid c1
              clear c1
              cases e : ((toS L1).getD i2 (false, 0)).1 with
              | false =>
                rw [e] at q0
                have E := Go.Lib.hid e
                clear e
                gi_wp2
                go_roundg (n - i2)
                case measure => exact meas K2.2.2 C1.out
                case rel =>
                  have hc := C1.out
                  have hle := LEN.out
                  exact ⟨i2 + 1, Boxed.set _ K0.out.1.1, ⟨hc, (skip_next (by rw [hle.1]; exact hc) E.out).symm.trans K2.2.1, meas2 hc⟩, ⟨K0.out.1.2.put HWW.out.1 hsO.1 hsO.2 _, (KeepsOthers.setCell _ _ _).same D _ K0.out.2.1 rfl⟩, K0.out.2.2.1.trans (KeepsOthers.setCell _ _ _), K0.out.2.2.2.1.setCell (p := ⟨W.heap.size, 0, none⟩) HWW.out.1 _, by obtain ⟨r, hr⟩ := K0.out.2.2.2.2; exact ⟨r, (KeepsOthers.setCell _ _ _).same l _ hr rfl⟩⟩
              | true =>
                rw [e] at q0
                have hsi : skip (toS L1) a = i2 := K2.2.1.symm.trans (skip_here e)
                have hst : stepW (toS L1) a x = if x.1 = (i2 : Int) ∧ x.2 = ((toS L1).getD i2 (false, 0)).2 then some (i2 + 1) else none := by
                  have hle := LEN.out
                  have hc := C1.out
                  unfold stepW
                  rw [hsi]
                  by_cases c : x.1 = (i2 : Int) ∧ x.2 = ((toS L1).getD i2 (false, 0)).2
                  · rw [if_pos c, if_pos ⟨by omega, c⟩]
                  · rw [if_neg c, if_neg (fun h => c h.2)]
                obtain ⟨v, ev⟩ : ∃ v, v = ((toS L1).getD i2 (false, 0)).2 := ⟨_, rfl⟩
                rw [← ev] at q1 hst
                clear ev e hsi
                have HST := Aside0.mk hst
                have HRUN := Aside0.mk hrun
                clear hst hrun
                by_cases e1 : x.1 = (i2 : Int)
                · by_cases e2 : x.2 = v
                  · have z6 : (x.1 != (i2 : Int)) = false := by rw [e1]; simp
                    have z7 : (x.2 != v) = false := by rw [e2]; simp
                    have z8 : (i2 : Int) ≠ (n : Int) := by omega
                    have E12 := Go.Lib.hid (And.intro e1 e2)
                    clear e1 e2
                    have hbA3 := K0.out.1.2.get HQ.out.2.2.1 HB.out.2.2.1
                    have hcA3 : ∀ o, (wr.alloc o).cell? ⟨w3.heap.size, 0, none⟩ = some (.func (.func 43) #[] #[.pointer (some ⟨wa.heap.size, 0, none⟩)]) := fun o => (hbA3.alloc o).cell
                    clear hbA3
                    gi_wp2
                    obtain ⟨r3, hr3⟩ := K0.out.2.2.2.2
                    obtain ⟨V2, hV2⟩ : ∃ V2, V2 = wr.alloc (.cells #[.int .i64 0] 3) := ⟨_, rfl⟩
                    have hsV2 : V2.heap.size = wr.heap.size + 1 := by rw [hV2, World.size_alloc]
                    have hr4 : V2.heap[l]? = some (.loop r3) := by rw [hV2]; exact (heap_alloc_old wr _ (Array.getElem?_eq_some_iff.1 hr3).1).trans hr3
                    have iv2 : Inv w V0 Q n b vs vf1 V2 := by rw [hV2]; exact K0.out.1.2.below (below_alloc (Below.refl _ wr) _) HQ.out.1
                    have hKD4 : V2.heap[D]? = some (.deferred (some [])) := by rw [hV2]; exact (heap_alloc_old wr _ (Array.getElem?_eq_some_iff.1 K0.out.2.1).1).trans K0.out.2.1
                    have bI : Boxed V2 wr.heap.size 3 (.int .i64 ((([] : List (Int × Int)).length : Nat) : Int)) := by rw [hV2]; exact Boxed.new wr _ _
                    have bO2 : Boxed V2 W.heap.size 3 (.int .i64 (i2 : Int)) := by rw [hV2]; exact K0.out.1.1.alloc _
                    have hkf2 : KeepsFrom V1.heap.size W2 V2 := by rw [hV2]; exact (K0.out.2.2.1.trans (KeepsOthers.alloc wr _)).from _
                    have hszs : w.heap.size ≤ W2.heap.size ∧ W2.heap.size ≤ wr.heap.size ∧ W.heap.size < wr.heap.size := ⟨HW2, K0.out.2.2.1.size, K0.out.1.1.lt⟩
                    have hbw2 : Below w.heap.size W2 V2 := by rw [hV2]; exact K0.out.2.2.2.1.alloc (by omega) _
                    have hnow2 := iv2.get HQ.out.2.2.2.1 bNow
                    have hrow2 := (iv2.1 gn HQ.out.2.2.2.2.1).trans bRow
                    have hww := HWW
                    have hWW3 : Aside0 (w3.heap.size + 1 ≤ W.heap.size) := HW3
                    have hdw := HDW
                    have hdv : D < V2.heap.size := (Array.getElem?_eq_some_iff.1 hKD4).1
                    rw [← hV2]
                    clear hV2 hcA3
                    refine wpIn_rangeFunc_ownN (l₀ := l) (r₀ := r3) rfl hr4 (by decide) (gf := 43) (lb := #[.pointer (some ⟨wa.heap.size, 0, none⟩)]) rfl trivial (enters_of Try.func43 (by kernel_rfl) rfl)
                      ((all_stopsM 3 (by decide) wa.heap.size gn w.heap.size (toS L1) capn cur V2 (by have := LEN.out; omega) hcs (by have := hww.2.1; omega) (by have := hww.2.2; omega) hnow2 hrow2).inRound l) kq2_t (kq2_b (by omega)) (Below.refl _ _) (fun _ => rfl)
                      (fun (pre3 : List (Int × Int)) (W3 : World) => (Boxed W3 wr.heap.size 3 (.int .i64 ((pre3.length : Nat) : Int)) ∧ Boxed W3 W.heap.size 3 (.int .i64 (i2 : Int))) ∧ ((Inv w V0 Q n b vs vf1 W3 ∧ W3.heap[D]? = some (.deferred (some []))) ∧ (Below w.heap.size W2 W3 ∧ KeepsFrom V1.heap.size W2 W3)))
                      (fun _ pre3 _ => ∃ y, y ∈ pre3 ∧ ¬ (hasL (toS L1) y.1 = true ∧ y.2 = ((toS L1).getD y.1.toNat (false, 0)).2))
                      (OwnFrom.and (OwnFrom.and (Own.from (boxed_own wr.heap.size 3 (fun (pre3 : List (Int × Int)) => .int .i64 ((pre3.length : Nat) : Int))) _) (Own.from (boxed_own W.heap.size 3 (fun _ => .int .i64 (i2 : Int))) _)) (OwnFrom.and (OwnFrom.and (inv_own hQc (by omega)) (fun _ _ _ _ hs hg hr => (hg.block D (Array.getElem?_eq_some_iff.1 hs).1 (fun e => by have := (hr D e.symm).1; omega)).trans hs)) (OwnFrom.and (ownFrom_below hszs.1 (by omega)) (ownFrom_keepsFrom (by omega)))))
                      (fun _ _ _ _ _ hs _ _ => hs)
                      ⟨⟨bI, bO2⟩, ⟨iv2, hKD4⟩, hbw2, hkf2⟩
                      (fun y a'' _ => a'' = { tmps := #[.int .i64 (n : Int), .slice A ops.length c, .int .i64 leave, undef, undef, .pointer (some ⟨w.heap.size, 0, none⟩), .pointer (some ⟨w.heap.size + 1, 0, none⟩), .pointer (some ⟨w1.heap.size, 0, none⟩), .pointer (some ⟨w1.heap.size + 1, 0, none⟩), .bool true, u10, .int .i64 (i : Int), .pointer (some ⟨w3.heap.size, 0, none⟩), .pointer (some ⟨w3.heap.size + 1, 0, none⟩), .pointer (some ⟨W.heap.size, 0, none⟩), .int .i64 x.fst, .int .i64 x.snd, .pointer (some ⟨wr.heap.size, 0, none⟩), .int .i64 y.1, .int .i64 y.2, .tuple #[.pointer (some ⟨b, 0, none⟩), .slice (some ⟨gl, 0, none⟩) n cl, .bool true, .bool true], .int .i64 (n : Int), .tuple #[.pointer (some ⟨b, 0, none⟩), .slice (some ⟨gl, 0, none⟩) n cl, .bool true, .bool true], .pointer (some ⟨b, 0, none⟩), .slice (some ⟨gl, 0, none⟩) n cl, .bool true, .bool true, .bool true, .bool false, .bool false, .bool true, .bool false, .bool false, undef, .int .i64 (i : Int), .slice A ops.length c, .int .i64 (ops.length : Int), .bool false, u38, u39, u40, u41, u42, u43, u44, u45, u46, u47, u48, u49, u50, u51, .pointer (some ⟨b, 0, none⟩), .func (.func 43) #[] #[.pointer (some ⟨wa.heap.size, 0, none⟩)], .func (.func 43) #[] #[.pointer (some ⟨wa.heap.size, 0, none⟩)], .bool false, .func (.func 43) #[] #[.pointer (some ⟨wa.heap.size, 0, none⟩)], undef, undef, undef, undef, undef, undef, undef, .func (.func 43) #[] #[.pointer (some ⟨wa.heap.size, 0, none⟩)], .int .i64 x.fst, .int .i64 x.snd, .int .i64 (i2 : Int), .slice (some ⟨gl1, 0, none⟩) n cl1, .int .i64 (n : Int), .bool true, .bool true, .slice (some ⟨gl1, 0, none⟩) n cl1, .int .i64 (i2 : Int), .pointer (some ⟨gl1, i2 * 2, none⟩), .pointer (some ⟨gl1, i2 * 2, none⟩), .bool true, .bool false, .bool false, u79, u80, .int .i64 (i2 : Int), .slice (some ⟨gl1, 0, none⟩) n cl1, .int .i64 (n : Int), .bool false, .bool false, .int .i64 x.fst, .int .i64 (i2 : Int), .bool false, .bool false, .bool false, .int .i64 x.snd, .slice (some ⟨gl1, 0, none⟩) n cl1, .int .i64 (i2 : Int), .pointer (some ⟨gl1, i2 * 2, none⟩), .pointer (some ⟨gl1, i2 * 2 + 1, none⟩), .int .i64 v, .bool false, .bool false, .func (.func 43) #[] #[.pointer (some ⟨wa.heap.size, 0, none⟩)], .int .i64 y.1, .int .i64 y.2, undef, undef, undef, undef, undef, undef, undef, undef, undef, undef, undef, undef, undef, undef, undef, undef, undef, undef, undef, undef, undef, undef, undef, undef, undef, undef, undef, undef, undef, undef, undef, undef, undef, undef, undef, undef, undef, undef, undef, undef, undef, undef, undef, undef, undef, undef, undef], defers := [] }) (fun _ _ _ _ _ _ hs _ _ => hs) ?assign3 ?body3 ?done3 ?stop3
                    case assign3 =>
                      intro l3 pre3 y W3 K hi3 hK
                      gi_wp2
                      exact hK _ _ (KeepsFrom.refl _ _) ⟨Below.refl _ _, fun _ _ _ _ h => h⟩ hi3 rfl
                    case body3 =>
                      rintro l3 pre3 y a'' W3 hl3 _ ⟨⟨hb1, hb2⟩, ⟨hiv3, hKD3⟩, hbw3, hkf3⟩ rfl hlt3b
                      have M0 := Aside0.mk (And.intro (And.intro hb1 hb2) (And.intro (And.intro hiv3 hKD3) (And.intro hbw3 hkf3)))
                      have hcI := hb1.cell
                      have hfI := hb1.frozen
                      have hcL3 := (hiv3.get HQ.out.2.2.2.2.2.2.2.2.2 HB.out.2.1.2).cell
                      have hcR3 := (hiv3.get HQ.out.2.2.2.2.2.2.2.1 HB.out.1.2).cell
                      have hfR3 := (hiv3.get HQ.out.2.2.2.2.2.2.2.1 HB.out.1.2).frozen
                      have HP6 : Hid (pre3.length < 65536) := by show _ < _; have := LEN.out; omega
                      have HSZ := Go.Lib.hid (And.intro hszs hsV2)
                      have hsI := NQ.out wr.heap.size (by have h7 := hszs.2.2; have h8 := hsO; have h9 := hWW3.out; omega)
                      clear hb1 hb2 hiv3 hKD3 hbw3 hkf3 hszs hsV2 hww hdw hdv hl3 hlt3b hl2 hlt han hin z1 z2 z3 z4 z5 z6 z7 z8 hcO hfO hcL hcR hfR q0 q1
                      cases hg : hasL (toS L1) y.1 with
                      | false =>
                        have hT := HTK.out W3 M0.out.2.1.1 y.1
                        rw [hg] at hT
                        have HT := Aside0.mk hT
                        have HG := Aside0.mk hg
                        clear hT hg
                        gi_wp2_with (refine ⟨trivial, ?_⟩; gi_at_call 26; refine (CallsIn.inRound l3 (CallsIn.inRound l (callsIn_wide.2 HT.out))).mono ?_; rintro e w' ⟨rfl, ⟨q, rfl⟩⟩)
                        refine ⟨((KeepsOthers.drewN W3 q).trans (KeepsOthers.setCell _ _ _)).from _, y, List.mem_append_right _ (List.mem_singleton.2 rfl), fun h => ?_⟩
                        rw [HG.out] at h
                        exact absurd h.1 (by decide)
                      | true =>
                        obtain ⟨g0, g1, _⟩ := hasL_in hg
                        have hT := HTK.out W3 M0.out.2.1.1 y.1
                        rw [hg] at hT
                        have HT := Aside0.mk hT
                        have HG := Aside0.mk hg
                        have hLN := LEN.out.1
                        have z3 : 0 ≤ y.1 := g0
                        have z4 : y.1 < (n : Int) := by omega
                        have hq1 := (HCL.out W3 M0.out.2.1.1 y.1.toNat (by omega)).2
                        obtain ⟨v3, ev3⟩ : ∃ v3, v3 = ((toS L1).getD y.1.toNat (false, 0)).2 := ⟨_, rfl⟩
                        rw [← ev3] at hq1
                        have EV3 := Aside0.mk ev3
                        clear hT hg g0 g1 hLN ev3
                        by_cases e3 : y.2 = v3
                        · have z7 : (v3 != y.2) = false := by rw [e3]; simp
                          have z9 : wrap64 (((pre3.length : Nat) : Int) + 1) = ((pre3.length : Nat) : Int) + 1 := by have h : pre3.length < 65536 := HP6; unfold wrap64; omega
                          have E3 := Aside0.mk e3
                          clear e3
                          gi_wp2_with (refine ⟨trivial, ?_⟩; gi_at_call 26; refine (CallsIn.inRound l3 (CallsIn.inRound l (callsIn_wide.2 HT.out))).mono ?_; rintro e w' ⟨rfl, ⟨q, rfl⟩⟩)
                          have hwr : w.heap.size ≤ wr.heap.size := by have h := HSZ.out.1; omega
                          have hi5 : Inv w V0 Q n b vs vf1 (W3.drewN q) := M0.out.2.1.1.below (pw_below_drewN (Below.refl _ W3) q) HQ.out.1
                          have hi6 := hi5.put hwr hsI.1 hsI.2 (.int .i64 (((pre3.length : Nat) : Int) + 1))
                          have hb6 : Below w.heap.size W3 ((W3.drewN q).setCell ⟨wr.heap.size, 0, none⟩ (.int .i64 (((pre3.length : Nat) : Int) + 1))) := (pw_below_drewN (Below.refl w.heap.size W3) q).setCell (p := ⟨wr.heap.size, 0, none⟩) hwr _
                          have hko6 : KeepsOthers W3 ((W3.drewN q).setCell ⟨wr.heap.size, 0, none⟩ (.int .i64 (((pre3.length : Nat) : Int) + 1))) := (KeepsOthers.drewN W3 q).trans (KeepsOthers.setCell _ _ _)
                          refine ⟨hko6.from _, M0.out.2.1.1.kq hi6 hb6 HQ.out.2.2.2.1 HQ.out.2.2.2.2.1, ⟨?_, (show Boxed (W3.drewN q) W.heap.size 3 (.int .i64 (i2 : Int)) from M0.out.1.2).other (by have h := HSZ.out.1.2.2; omega) _⟩, ⟨hi6, hko6.same D _ M0.out.2.1.2 rfl⟩, M0.out.2.2.1.trans hb6, M0.out.2.2.2.trans (hko6.from _)⟩
                          have e : (((pre3 ++ [y]).length : Nat) : Int) = ((pre3.length : Nat) : Int) + 1 := by rw [List.length_append, List.length_singleton]; omega
                          rw [e]
                          exact Boxed.set (W := W3.drewN q) _ M0.out.1.1
                        · have z7 : (v3 != y.2) = true := bne_iff_ne.2 (fun h => e3 h.symm)
                          have E3 := Aside0.mk e3
                          clear e3
                          gi_wp2_with (refine ⟨trivial, ?_⟩; gi_at_call 26; refine (CallsIn.inRound l3 (CallsIn.inRound l (callsIn_wide.2 HT.out))).mono ?_; rintro e w' ⟨rfl, ⟨q, rfl⟩⟩)
                          refine ⟨((KeepsOthers.drewN W3 q).trans (KeepsOthers.setCell _ _ _)).from _, y, List.mem_append_right _ (List.mem_singleton.2 rfl), fun h => E3.out (h.2.trans EV3.out.symm)⟩
                    case done3 =>
                      rintro ys3 W3 rfl ⟨⟨hb1, hb2⟩, ⟨hiv3, hKD3⟩, hbw3, hkf3⟩
                      have hmx : Try.prog.follows .mixedOrders = true := by kernel_rfl
                      have M3 : Aside0 (Mid w V0 Q n b vs vf1 W.heap.size (.int .i64 (i2 : Int)) D W2 V1.heap.size W3) := ⟨⟨hiv3, hb2, hKD3, hbw3, hkf3⟩⟩
                      have MD : Aside0 (∀ k, Mid w V0 Q n b vs vf1 W.heap.size (.int .i64 (i2 : Int)) D W2 V1.heap.size (W3.drewN k)) := ⟨fun k => M3.out.below (pw_below_drewN (Below.refl _ W3) k) HQ.out.1⟩
                      have hcI := hb1.cell
                      have hcL3 := (hiv3.get HQ.out.2.2.2.2.2.2.2.2.2 HB.out.2.1.2).cell
                      have hcP3 := (hiv3.get HQ.out.2.2.2.2.2.2.2.2.1 HB.out.2.1.1).cell
                      have HSZ := Go.Lib.hid (And.intro hszs hsV2)
                      have hu0 := HUS.out W3.drew (M3.out.below ((Below.refl _ W3).drew) HQ.out.1).1
                      obtain ⟨ct, hct⟩ : ∃ ct, ct = ((takenTo (toS L1) (toS L1).length).length : Nat) := ⟨_, rfl⟩
                      rw [← hct] at hcI hu0
                      have HU0 : Aside0 (Calls Try.prog 23 #[.slice (some ⟨gl1, 0, none⟩) n cl1] W3.drew fun e w' => e = .returned (.int .i64 (ct : Int)) ∧ Drawn0 W3.drew w') := ⟨hu0⟩
                      clear hu0
                      have HCT := Aside0.mk hct
                      have zO : wrap64 ((i2 : Int) + 1) = (i2 : Int) + 1 := by have h1 : i2 < n := C1.out; have h2 := LEN.out; unfold wrap64; omega
                      clear hb1 hb2 hiv3 hKD3 hbw3 hkf3 hszs hsV2 hww hdw hdv hl2 hlt han hin z1 z2 z3 z4 z5 z6 z7 z8 hcO hfO hcL hcR hfR q0 q1 hct
                      gi_wp2
                      refine wpIn_region_any hmx ?_
                      change wpAnyIn _ _ _ _ _ _ _ _ _ (World.drew _)
                      all_goals (refine wpAnyIn_ready (rs := [0, 1]) (by decide +kernel) (by simp) ?_; refine AllReadyIn.cons rfl (fun K hK => ?_) (AllReadyIn.cons rfl (fun K hK => ?_) (AllReadyIn.nil)) <;> (go_simp; refine hK _ _ ?_; clear hK K))
                      all_goals first
                        | (refine wpAnyIn_ready (rs := [1]) (by decide +kernel) (by simp) ?_; refine AllReadyIn.cons rfl (fun K hK => ?_) (AllReadyIn.nil); (go_simp; refine hK _ _ ?_; clear hK K))
                        | (refine wpAnyIn_ready (rs := [0, 2]) (by decide +kernel) (by simp) ?_; refine AllReadyIn.cons rfl (fun K hK => ?_) (AllReadyIn.cons rfl (fun K hK => ?_) (AllReadyIn.nil)); (focus (go_simp; refine hK _ _ ?_; clear hK K)); rotate_left; (focus (go_simp; gi_wp2_with (refine ⟨trivial, ?_⟩; gi_at_call 23; refine (CallsIn.inRound l (callsIn_wide.2 HU0.out)).mono ?_; rintro e w' ⟨rfl, ⟨jd, rfl⟩⟩))))
                      all_goals first
                        | (refine wpAnyIn_ready (rs := [2]) (by decide +kernel) (by simp) ?_; refine AllReadyIn.cons rfl (fun K hK => ?_) (AllReadyIn.nil); (go_simp; gi_wp2_with (refine ⟨trivial, ?_⟩; gi_at_call 23; refine (CallsIn.inRound l (callsIn_wide.2 HU0.out)).mono ?_; rintro e w' ⟨rfl, ⟨jd, rfl⟩⟩)))
                        | (refine wpAnyIn_ready (rs := [0]) (by decide +kernel) (by simp) ?_; refine AllReadyIn.cons rfl (fun K hK => ?_) (AllReadyIn.nil); (go_simp; refine hK _ _ ?_; clear hK K))
                      all_goals (refine wpAnyIn_ready (rs := [3]) (by decide +kernel) (by simp) ?_; refine AllReadyIn.cons rfl (fun K hK => ?_) (AllReadyIn.nil); (go_simp; refine hK _ _ ?_; clear hK K))
                      all_goals refine wpAnyIn_done (by kernel_rfl) ?_ _
                      all_goals
                        gi_wp2_with (first
                          | (refine ⟨trivial, ?_⟩; gi_at_call 27; refine (CallsIn.inRound l (callsIn_wide.2 (live_set M6.out.1.2.1 x.1 (-7)))).mono ?_; rintro e w7 ⟨r7, rfl, hL7, hK7, hB7⟩; have M7 := Aside0.mk (M6.out.call hL7 hK7 hB7 HQ.out.2.1 HQ.out.1 hsO.2 HFD.out HFT.out); have hcO7 := M7.out.2.1.cell; have hfO7 := M7.out.2.1.frozen; clear hL7 hK7 hB7)
                          | (refine ⟨trivial, ?_⟩; gi_at_call 18; refine (CallsIn.inRound l (callsIn_wide.2 (live_take M5.out.1.2.1 HN.out.2 (-5)))).mono ?_; rintro e w6 ⟨r6, s6, rfl, hL6, hK6, hB6⟩; have M6 := Aside0.mk (M5.out.call hL6 hK6 hB6 HQ.out.2.1 HQ.out.1 hsO.2 HFD.out HFT.out); have hcP6 := (M6.out.1.get HQ.out.2.2.2.2.2.2.2.2.1 HB.out.2.1.1).cell; clear hL6 hK6 hB6)
                          | (refine ⟨trivial, ?_⟩; gi_at_call 19; refine (CallsIn.inRound l (callsIn_wide.2 (live_give (MD.out (1 + jd)).1.2.1 HN.out.2 x.1))).mono ?_; rintro e w5 ⟨r5, s5, rfl, hL5, hK5, hB5⟩; have M5 := Aside0.mk ((MD.out (1 + jd)).call hL5 hK5 hB5 HQ.out.2.1 HQ.out.1 hsO.2 HFD.out HFT.out); have hcP5 := (M5.out.1.get HQ.out.2.2.2.2.2.2.2.2.1 HB.out.2.1.1).cell; clear hL5 hK5 hB5))
                        have hwW9 : w.heap.size ≤ W.heap.size := HWW.out.1
                        have hi8 := M7.out.1.put hwW9 hsO.1 hsO.2 (.int .i64 ((i2 : Int) + 1))
                        have hko8 : KeepsOthers w7 (w7.setCell ⟨W.heap.size, 0, none⟩ (.int .i64 ((i2 : Int) + 1))) := KeepsOthers.setCell _ _ _
                        have hb8 : Below w.heap.size W2 (w7.setCell ⟨W.heap.size, 0, none⟩ (.int .i64 ((i2 : Int) + 1))) := M7.out.2.2.2.1.setCell (p := ⟨W.heap.size, 0, none⟩) hwW9 _
                        refine ⟨M7.out.2.2.2.2.trans (hko8.from _), HI2.out.kq hi8 hb8 HQ.out.2.2.2.1 HQ.out.2.2.2.2.1, ⟨i2 + 1, ?_, ?_, C1.out⟩, hi8, hko8.same D _ M7.out.2.2.1 rfl⟩
                        · rw [show (((i2 + 1 : Nat)) : Int) = (i2 : Int) + 1 from by omega]
                          exact Boxed.set _ M7.out.2.1
                        · rw [runW_snoc, HRUN.out]
                          exact HST.out.trans (if_pos E12.out)
                    case stop3 =>
                      rintro c3 pre3 W3 ⟨k, hk, rfl⟩ ⟨y, hy, hbad⟩
                      exact absurd (taken_good hk hy) hbad
                  · have z6 : (x.1 != (i2 : Int)) = false := by rw [e1]; simp
                    have z7 : (x.2 != v) = true := bne_iff_ne.2 e2
                    have E12 : Hid (¬ (x.1 = (i2 : Int) ∧ x.2 = v)) := fun h => e2 h.2
                    clear e1 e2
                    gi_wp2
                    refine ⟨(K0.out.2.2.1.trans (KeepsOthers.setCell _ _ _)).from _, ?_⟩
                    show runW (toS L1) _ = none
                    rw [runW_snoc, HRUN.out]
                    exact HST.out.trans (if_neg E12.out)
                · have z6 : (x.1 != (i2 : Int)) = true := bne_iff_ne.2 e1
                  have E12 : Hid (¬ (x.1 = (i2 : Int) ∧ x.2 = v)) := fun h => e1 h.1
                  clear e1
                  gi_wp2
                  refine ⟨(K0.out.2.2.1.trans (KeepsOthers.setCell _ _ _)).from _, ?_⟩
                  show runW (toS L1) _ = none
                  rw [runW_snoc, HRUN.out]
                  exact HST.out.trans (if_neg E12.out)
            · have z1 : decide ((i2 : Int) < (n : Int)) = false := decide_eq_false (by omega)
              have z9 : decide (i2 < n) = false := decide_eq_false c1
              have z2 : ((i2 : Int) == (n : Int)) = true := beq_iff_eq.2 (by omega)
              have hst : stepW (toS L1) a x = none := by
                have hle := LEN.out
                unfold stepW
                rw [if_neg]
                intro h
                have h1 := h.1
                rw [← K2.2.1, skip_end (by omega)] at h1
                omega
              have HST := Aside0.mk hst
              have HRUN := Aside0.mk hrun
              clear hst hrun c1 hin
              gi_wp2
              refine ⟨(K0.out.2.2.1.trans (KeepsOthers.setCell _ _ _)).from _, ?_⟩
              show runW (toS L1) _ = none
              rw [runW_snoc, HRUN.out]
              exact HST.out
        case done2 =>
          rintro D2 ys2 W4 hD2 rfl ⟨⟨a, ha, hrun, han⟩, hiv4, hKD4⟩ hK4
          have hsO := NQ.out W.heap.size (by omega)
          have hDD : D ≠ D2 := by omega
          have HDD := Aside0.mk (And.intro hDD hD2)
          have HD1 := Go.Lib.hid (And.intro hWV (And.intro hsV (And.intro hsz3 hW1)))
          clear hlt3 hsV hgn hgn2 hW1 hsz3 hWV hD hDW hsV1 hDD hD2
          gi_wp2
          gi_loopg [] (n + 1 - a) (fun kx wq => ∃ i2 : Nat, Boxed wq W.heap.size 3 (.int .i64 (i2 : Int)) ∧ (i2 ≤ n ∧ skip (toS L1) i2 = skip (toS L1) a ∧ n < i2 + kx) ∧ (Inv w V0 Q n b vs vf1 wq ∧ wq.heap[D]? = some (.deferred (some []))) ∧ wq.heap[D2]? = some (.deferred (some [])))
          case atStart => exact ⟨a, ha, ⟨han, rfl, by omega⟩, ⟨hiv4, hKD4⟩, hK4⟩
          case round =>
            obtain ⟨i2, hi2, ⟨hin, hsk, hik⟩, ⟨hiv2, hKD2⟩, hK2⟩ := hrel
            have hcO := hi2.cell
            have hfO := hi2.frozen
            have hcL := (hiv2.get HQ.out.2.2.2.2.2.2.2.2.2 HB.out.2.1.2).cell
            have hcR := (hiv2.get HQ.out.2.2.2.2.2.2.2.1 HB.out.1.2).cell
            have hfR := (hiv2.get HQ.out.2.2.2.2.2.2.2.1 HB.out.1.2).frozen
            have K0 := Aside0.mk (And.intro (And.intro hi2 hiv2) (And.intro hKD2 hK2))
            have K2 : Hid (i2 ≤ n ∧ skip (toS L1) i2 = skip (toS L1) a ∧ n < i2 + gk) := ⟨hin, hsk, hik⟩
            clear hi2 hiv2 hKD2 hK2 hsk hik ha hiv4 hKD4 hK4
            by_cases c1 : i2 < n
            · obtain ⟨q0, q1⟩ := HCL.out wr K0.out.1.2 i2 c1
              have z1 : decide ((i2 : Int) < (n : Int)) = true := decide_eq_true (by omega)
              have z2 : ((i2 : Int) == (n : Int)) = false := beq_eq_false_iff_ne.2 (by omega)
              have z3 : 0 ≤ (i2 : Int) := by omega
              have z4 : (i2 : Int) < (n : Int) := by omega
              have z5 : wrap64 ((i2 : Int) + 1) = ((i2 + 1 : Nat) : Int) := by have := LEN.out; unfold wrap64; omega
              have C1 := Go.Lib.hid c1
              clear c1 q1
              cases e : ((toS L1).getD i2 (false, 0)).1 with
              | false =>
                rw [e] at q0
                have E := Go.Lib.hid e
                clear e
                gi_wp2
                go_roundg (n - i2)
                case measure => exact meas K2.2.2 C1.out
                case rel =>
                  have hc := C1.out
                  have hle := LEN.out
                  exact ⟨i2 + 1, Boxed.set _ K0.out.1.1, ⟨hc, (skip_next (by rw [hle.1]; exact hc) E.out).symm.trans K2.2.1, meas2 hc⟩, ⟨K0.out.1.2.put HWW.out.1 hsO.1 hsO.2 _, (KeepsOthers.setCell _ _ _).same D _ K0.out.2.1 rfl⟩, (KeepsOthers.setCell _ _ _).same D2 _ K0.out.2.2 rfl⟩
              | true =>
                exfalso
                have hle := LEN.out
                obtain ⟨a2, r1, r2, r3⟩ := runW_taken (toS L1) (toS L1).length (Nat.le_refl _)
                rw [r1] at hrun
                injection hrun with hrun
                subst hrun
                have h1 := skip_far (toS L1).length (Nat.le_refl _) _ a2 rfl r2 r3
                rw [skip_end (Nat.le_refl _), ← K2.2.1, skip_here e] at h1
                have := C1.out
                omega
            · obtain rfl : i2 = n := by omega
              have z1 : decide ((i2 : Int) < (i2 : Int)) = false := decide_eq_false (by omega)
              have z2 : ((i2 : Int) == (i2 : Int)) = true := beq_self_eq_true _
              have hKa := K0.out.2.1
              have hKb := K0.out.2.2
              clear c1 hin hrun han
              gi_wp2
              have hlo1 : w.heap.size ≤ D := by have h1 := HD1.out.1; have h2 := HD1.out.2.1; have h3 := HD1.out.2.2.1.1; omega
              have hlo2 : w.heap.size ≤ D2 := by have h1 := hiv1.2.2.size; have h2 := HDD.out.2; omega
              have hKb' : (wr.setCell ⟨w.heap.size + 1, 0, none⟩ (.bool true)).heap[D2]? = some (.deferred (some [])) := (KeepsOthers.setCell _ _ _).same D2 _ hKb rfl
              have hKa' : ((wr.setCell ⟨w.heap.size + 1, 0, none⟩ (.bool true)).putObj D2 (.deferred none)).heap[D]? = some (.deferred (some [])) := (World.putObj_heap_other HDD.out.1).trans ((KeepsOthers.setCell _ _ _).same D _ hKa rfl)
              refine ⟨by simp, .inl ⟨_, _, rfl, run_takeDeferred hKb', ?_⟩⟩
              refine ⟨by simp, .inl ⟨_, _, rfl, run_takeDeferred hKa', ?_⟩⟩
              have hc4 := cell_kept (World.cell?_setCell_same' wr ⟨w.heap.size + 1, 0, none⟩ (.bool true) (by rw [hcR]; rfl)) (grownBy_putObj' _ D2 (.deferred none)) (fun r e => by cases e; exact ⟨_, hKb', rfl⟩)
              have hc5 := cell_kept hc4 (grownBy_putObj' _ D (.deferred none)) (fun r e => by cases e; exact ⟨_, hKa', rfl⟩)
              refine ⟨.bool true, ?_, rfl, ?_⟩
              · simp [results, Try.f7, go_sem, hc5]
              · exact ((K0.out.1.2.2.2.setCell (p := ⟨w.heap.size + 1, 0, none⟩) (show w.heap.size ≤ w.heap.size + 1 by omega) _).trans (belowK_b (w := w) (Nat.le_refl _) _ D2 _ _ hlo2 hKb' rfl rfl)).trans (belowK_b (w := w) (Nat.le_refl _) _ D _ _ hlo1 hKa' rfl rfl)
        case stop2 =>
          rintro D2 c2 pre W2 hD2 ⟨k, hk, rfl⟩ hx _
          obtain ⟨a, h1, _⟩ := runW_taken (toS L1) k hk
          rw [h1] at hx
          cases hx
      case stop =>
        rintro D c' pre W hD _ ⟨rfl, hiv⟩ hK
        have hbA := hiv.get HQ.out.2.2.1 HB.out.2.2.1
        have hcA : ∀ o, (W.alloc o).cell? ⟨w3.heap.size, 0, none⟩ = some (.func (.func 43) #[] #[.pointer (some ⟨wa.heap.size, 0, none⟩)]) := fun o => (hbA.alloc o).cell
        have H5 := Aside0.mk (And.intro hiv hK)
        have hDW : D < W.heap.size := (Array.getElem?_eq_some_iff.1 hK).1
        clear hiv hK hbA
        gi_wp2
        obtain ⟨V1, hV1⟩ : ∃ V1, V1 = W.alloc (.cells #[.int .i64 0] 3) := ⟨_, rfl⟩
        have hsV1 : V1.heap.size = W.heap.size + 1 := by rw [hV1, World.size_alloc]
        have hiv1 : Inv w V0 Q n b vs vf1 V1 := by rw [hV1]; exact H5.out.1.below (below_alloc (Below.refl _ W) _) HQ.out.1
        have hK1 : V1.heap[D]? = some (.deferred (some [])) := by rw [hV1]; exact (heap_alloc_old W _ hDW).trans H5.out.2
        have bO : Boxed V1 W.heap.size 3 (.int .i64 ((0 : Nat) : Int)) := by rw [hV1]; exact Boxed.new W _ _
        have hWV : V0.heap.size ≤ D := hD
        have hnow1 := hiv1.get HQ.out.2.2.2.1 bNow
        have hrow1 := (hiv1.1 gn HQ.out.2.2.2.2.1).trans bRow
        rw [← hV1]
        clear hV1 hcA H5
        have hwW : w.heap.size ≤ W.heap.size := by omega
        have hnW : wa.heap.size < W.heap.size := by omega
        have hgW : gn < W.heap.size := by omega
        have HWW := Go.Lib.hid (And.intro hwW (And.intro hnW hgW))
        clear hwW hnW hgW
        have HW3 : Aside0 (w3.heap.size + 1 ≤ W.heap.size) := ⟨by omega⟩
        refine wpIn_rangeFunc_ownH rfl (by omega) (gf := 43) (lb := #[.pointer (some ⟨wa.heap.size, 0, none⟩)]) rfl trivial (enters_of Try.func43 (by kernel_rfl) rfl)
          (all_stopsM 5 (by decide) wa.heap.size gn w.heap.size (toS L1) capn cur V1 (by have := LEN.out; omega) hcs (by omega) (by omega) hnow1 hrow1) kq2_t (kq2_b (by omega)) (Below.refl _ _) (fun _ => rfl)
          (fun (pre : List (Int × Int)) (W2 : World) => (∃ a : Nat, Boxed W2 W.heap.size 3 (.int .i64 (a : Int)) ∧ (runW (toS L1) pre = some a ∧ a ≤ n)) ∧ (Inv w V0 Q n b vs vf1 W2 ∧ W2.heap[D]? = some (.deferred (some []))))
          (fun _ pre _ => runW (toS L1) pre = none)
          (OwnFrom.and (Own.from (boxed_ex_own W.heap.size 3 (fun pre a => runW (toS L1) pre = some a ∧ a ≤ n)) _) (OwnFrom.and (inv_own hQc (by omega)) (fun _ _ _ _ hs hg hr => (hg.block D (Array.getElem?_eq_some_iff.1 hs).1 (fun e => by have := (hr D e.symm).1; omega)).trans hs)))
          (fun _ _ _ _ _ hs _ _ => hs)
          ⟨⟨0, bO, rfl, Nat.zero_le _⟩, hiv1, hK1⟩
          (fun x a' _ => a' = { tmps := #[.int .i64 (n : Int), .slice A ops.length c, .int .i64 leave, undef, undef, .pointer (some ⟨w.heap.size, 0, none⟩), .pointer (some ⟨w.heap.size + 1, 0, none⟩), .pointer (some ⟨w1.heap.size, 0, none⟩), .pointer (some ⟨w1.heap.size + 1, 0, none⟩), .bool true, u10, .int .i64 (i : Int), .pointer (some ⟨w3.heap.size, 0, none⟩), .pointer (some ⟨w3.heap.size + 1, 0, none⟩), .pointer (some ⟨W.heap.size, 0, none⟩), .int .i64 x.1, .int .i64 x.2, undef, undef, undef, .tuple #[.pointer (some ⟨b, 0, none⟩), .slice (some ⟨gl, 0, none⟩) n cl, .bool true, .bool true], .int .i64 (n : Int), .tuple #[.pointer (some ⟨b, 0, none⟩), .slice (some ⟨gl, 0, none⟩) n cl, .bool true, .bool true], .pointer (some ⟨b, 0, none⟩), .slice (some ⟨gl, 0, none⟩) n cl, .bool true, .bool true, .bool true, .bool false, .bool false, .bool true, .bool false, .bool false, undef, .int .i64 (i : Int), .slice A ops.length c, .int .i64 (ops.length : Int), .bool false, u38, u39, u40, u41, u42, u43, u44, u45, u46, u47, u48, u49, u50, u51, .pointer (some ⟨b, 0, none⟩), .func (.func 43) #[] #[.pointer (some ⟨wa.heap.size, 0, none⟩)], .func (.func 43) #[] #[.pointer (some ⟨wa.heap.size, 0, none⟩)], .bool false, .func (.func 43) #[] #[.pointer (some ⟨wa.heap.size, 0, none⟩)], undef, undef, undef, undef, undef, undef, undef, .func (.func 43) #[] #[.pointer (some ⟨wa.heap.size, 0, none⟩)], .int .i64 x.1, .int .i64 x.2, undef, undef, undef, undef, undef, undef, undef, undef, undef, undef, undef, undef, undef, undef, undef, undef, undef, undef, undef, undef, undef, undef, undef, undef, undef, undef, undef, undef, undef, undef, undef, undef, undef, undef, undef, undef, undef, undef, undef, undef, undef, undef, undef, undef, undef, undef, undef, undef, undef, undef, undef, undef, undef, undef, undef, undef, undef, undef, undef, undef, undef, undef, undef, undef, undef, undef, undef, undef, undef, undef, undef, undef, undef, undef, undef, undef, undef, undef, undef, undef, undef, undef], defers := [] }) (fun _ _ _ _ _ _ hs _ _ => hs) ?assign2 ?body2 ?done2 ?stop2
        case assign2 =>
          intro l pre x W2 K hi2 hK
          gi_wp2
          exact hK _ _ (KeepsFrom.refl _ _) ⟨Below.refl _ _, fun _ _ _ _ h => h⟩ hi2 rfl
        case body2 =>
          rintro l pre x a' W2 hl2 ⟨r, hr⟩ ⟨⟨a, ha, hrun, han⟩, hiv, hKD⟩ rfl hlt
          have hsO := NQ.out W.heap.size (by omega)
          have HDW := Go.Lib.hid (And.intro hDW hsV1)
          have HW2 := Go.Lib.hid hiv.2.2.size
          have HI2 := Aside0.mk hiv
          have HFD : Aside0 (¬ Foot b vs vf1 D) := ⟨fun h => by
            obtain ⟨_, _, cc, tt, hcc⟩ := hiv1.2.1.foot D h
            rw [hK1] at hcc
            cases hcc⟩
          have HFT := Aside0.mk (fun k hk => (hiv1.2.1.foot k hk).2.1)
          clear hlt3 hsV hgn hgn2 hW1 hsz3 hWV hD hDW hsV1
          gi_wp2
          gi_loopg [] (n + 1 - a) (fun kx wq => ∃ i2 : Nat, Boxed wq W.heap.size 3 (.int .i64 (i2 : Int)) ∧ (i2 ≤ n ∧ skip (toS L1) i2 = skip (toS L1) a ∧ n < i2 + kx) ∧ (Inv w V0 Q n b vs vf1 wq ∧ wq.heap[D]? = some (.deferred (some []))) ∧ KeepsOthers W2 wq ∧ Below w.heap.size W2 wq ∧ (∃ r, wq.heap[l]? = some (.loop r)))
          case atStart => exact ⟨a, ha, ⟨han, rfl, by omega⟩, ⟨hiv, hKD⟩, KeepsOthers.refl W2, Below.refl _ W2, ⟨r, hr⟩⟩
          case round =>
            obtain ⟨i2, hi2, ⟨hin, hsk, hik⟩, ⟨hiv2, hKD2⟩, hko, hbo, hr2⟩ := hrel
            have hcO := hi2.cell
            have hfO := hi2.frozen
            have hcL := (hiv2.get HQ.out.2.2.2.2.2.2.2.2.2 HB.out.2.1.2).cell
            have hcR := (hiv2.get HQ.out.2.2.2.2.2.2.2.1 HB.out.1.2).cell
            have hfR := (hiv2.get HQ.out.2.2.2.2.2.2.2.1 HB.out.1.2).frozen
            have K0 := Aside0.mk (And.intro (And.intro hi2 hiv2) (And.intro hKD2 (And.intro hko (And.intro hbo hr2))))
            have K2 : Hid (i2 ≤ n ∧ skip (toS L1) i2 = skip (toS L1) a ∧ n < i2 + gk) := ⟨hin, hsk, hik⟩
            clear hi2 hiv2 hKD2 hko hbo hr2 hsk hik ha hiv hKD hr
            by_cases c1 : i2 < n
            · obtain ⟨q0, q1⟩ := HCL.out wr K0.out.1.2 i2 c1
              have z1 : decide ((i2 : Int) < (n : Int)) = true := decide_eq_true (by omega)
              have z2 : ((i2 : Int) == (n : Int)) = false := beq_eq_false_iff_ne.2 (by omega)
              have z3 : 0 ≤ (i2 : Int) := by omega
              have z4 : (i2 : Int) < (n : Int) := by omega
              have z5 : wrap64 ((i2 : Int) + 1) = ((i2 + 1 : Nat) : Int) := by have := LEN.out; unfold wrap64; omega
              have C1 := Go.Lib.hid c1
              clear c1
              cases e : ((toS L1).getD i2 (false, 0)).1 with
              | false =>
                rw [e] at q0
                have E := Go.Lib.hid e
                clear e
                gi_wp2
                go_roundg (n - i2)
                case measure => exact meas K2.2.2 C1.out
                case rel =>
                  have hc := C1.out
                  have hle := LEN.out
                  exact ⟨i2 + 1, Boxed.set _ K0.out.1.1, ⟨hc, (skip_next (by rw [hle.1]; exact hc) E.out).symm.trans K2.2.1, meas2 hc⟩, ⟨K0.out.1.2.put HWW.out.1 hsO.1 hsO.2 _, (KeepsOthers.setCell _ _ _).same D _ K0.out.2.1 rfl⟩, K0.out.2.2.1.trans (KeepsOthers.setCell _ _ _), K0.out.2.2.2.1.setCell (p := ⟨W.heap.size, 0, none⟩) HWW.out.1 _, by obtain ⟨r, hr⟩ := K0.out.2.2.2.2; exact ⟨r, (KeepsOthers.setCell _ _ _).same l _ hr rfl⟩⟩
              | true =>
                rw [e] at q0
                have hsi : skip (toS L1) a = i2 := K2.2.1.symm.trans (skip_here e)
                have hst : stepW (toS L1) a x = if x.1 = (i2 : Int) ∧ x.2 = ((toS L1).getD i2 (false, 0)).2 then some (i2 + 1) else none := by
                  have hle := LEN.out
                  have hc := C1.out
                  unfold stepW
                  rw [hsi]
                  by_cases c : x.1 = (i2 : Int) ∧ x.2 = ((toS L1).getD i2 (false, 0)).2
                  · rw [if_pos c, if_pos ⟨by omega, c⟩]
                  · rw [if_neg c, if_neg (fun h => c h.2)]
                obtain ⟨v, ev⟩ : ∃ v, v = ((toS L1).getD i2 (false, 0)).2 := ⟨_, rfl⟩
                rw [← ev] at q1 hst
                clear ev e hsi
                have HST := Aside0.mk hst
                have HRUN := Aside0.mk hrun
                clear hst hrun
                by_cases e1 : x.1 = (i2 : Int)
                · by_cases e2 : x.2 = v
                  · have z6 : (x.1 != (i2 : Int)) = false := by rw [e1]; simp
                    have z7 : (x.2 != v) = false := by rw [e2]; simp
                    have z8 : (i2 : Int) ≠ (n : Int) := by omega
                    have E12 := Go.Lib.hid (And.intro e1 e2)
                    clear e1 e2
                    have hbA3 := K0.out.1.2.get HQ.out.2.2.1 HB.out.2.2.1
                    have hcA3 : ∀ o, (wr.alloc o).cell? ⟨w3.heap.size, 0, none⟩ = some (.func (.func 43) #[] #[.pointer (some ⟨wa.heap.size, 0, none⟩)]) := fun o => (hbA3.alloc o).cell
                    clear hbA3
                    gi_wp2
                    obtain ⟨r3, hr3⟩ := K0.out.2.2.2.2
                    obtain ⟨V2, hV2⟩ : ∃ V2, V2 = wr.alloc (.cells #[.int .i64 0] 3) := ⟨_, rfl⟩
                    have hsV2 : V2.heap.size = wr.heap.size + 1 := by rw [hV2, World.size_alloc]
                    have hr4 : V2.heap[l]? = some (.loop r3) := by rw [hV2]; exact (heap_alloc_old wr _ (Array.getElem?_eq_some_iff.1 hr3).1).trans hr3
                    have iv2 : Inv w V0 Q n b vs vf1 V2 := by rw [hV2]; exact K0.out.1.2.below (below_alloc (Below.refl _ wr) _) HQ.out.1
                    have hKD4 : V2.heap[D]? = some (.deferred (some [])) := by rw [hV2]; exact (heap_alloc_old wr _ (Array.getElem?_eq_some_iff.1 K0.out.2.1).1).trans K0.out.2.1
                    have bI : Boxed V2 wr.heap.size 3 (.int .i64 ((([] : List (Int × Int)).length : Nat) : Int)) := by rw [hV2]; exact Boxed.new wr _ _
                    have bO2 : Boxed V2 W.heap.size 3 (.int .i64 (i2 : Int)) := by rw [hV2]; exact K0.out.1.1.alloc _
                    have hkf2 : KeepsFrom V1.heap.size W2 V2 := by rw [hV2]; exact (K0.out.2.2.1.trans (KeepsOthers.alloc wr _)).from _
                    have hszs : w.heap.size ≤ W2.heap.size ∧ W2.heap.size ≤ wr.heap.size ∧ W.heap.size < wr.heap.size := ⟨HW2, K0.out.2.2.1.size, K0.out.1.1.lt⟩
                    have hbw2 : Below w.heap.size W2 V2 := by rw [hV2]; exact K0.out.2.2.2.1.alloc (by omega) _
                    have hnow2 := iv2.get HQ.out.2.2.2.1 bNow
                    have hrow2 := (iv2.1 gn HQ.out.2.2.2.2.1).trans bRow
                    have hww := HWW
                    have hWW3 : Aside0 (w3.heap.size + 1 ≤ W.heap.size) := HW3
                    have hdw := HDW
                    have hdv : D < V2.heap.size := (Array.getElem?_eq_some_iff.1 hKD4).1
                    rw [← hV2]
                    clear hV2 hcA3
                    refine wpIn_rangeFunc_ownN (l₀ := l) (r₀ := r3) rfl hr4 (by decide) (gf := 43) (lb := #[.pointer (some ⟨wa.heap.size, 0, none⟩)]) rfl trivial (enters_of Try.func43 (by kernel_rfl) rfl)
                      ((all_stopsM 3 (by decide) wa.heap.size gn w.heap.size (toS L1) capn cur V2 (by have := LEN.out; omega) hcs (by have := hww.2.1; omega) (by have := hww.2.2; omega) hnow2 hrow2).inRound l) kq2_t (kq2_b (by omega)) (Below.refl _ _) (fun _ => rfl)
                      (fun (pre3 : List (Int × Int)) (W3 : World) => (Boxed W3 wr.heap.size 3 (.int .i64 ((pre3.length : Nat) : Int)) ∧ Boxed W3 W.heap.size 3 (.int .i64 (i2 : Int))) ∧ ((Inv w V0 Q n b vs vf1 W3 ∧ W3.heap[D]? = some (.deferred (some []))) ∧ (Below w.heap.size W2 W3 ∧ KeepsFrom V1.heap.size W2 W3)))
                      (fun _ pre3 _ => ∃ y, y ∈ pre3 ∧ ¬ (hasL (toS L1) y.1 = true ∧ y.2 = ((toS L1).getD y.1.toNat (false, 0)).2))
                      (OwnFrom.and (OwnFrom.and (Own.from (boxed_own wr.heap.size 3 (fun (pre3 : List (Int × Int)) => .int .i64 ((pre3.length : Nat) : Int))) _) (Own.from (boxed_own W.heap.size 3 (fun _ => .int .i64 (i2 : Int))) _)) (OwnFrom.and (OwnFrom.and (inv_own hQc (by omega)) (fun _ _ _ _ hs hg hr => (hg.block D (Array.getElem?_eq_some_iff.1 hs).1 (fun e => by have := (hr D e.symm).1; omega)).trans hs)) (OwnFrom.and (ownFrom_below hszs.1 (by omega)) (ownFrom_keepsFrom (by omega)))))
                      (fun _ _ _ _ _ hs _ _ => hs)
                      ⟨⟨bI, bO2⟩, ⟨iv2, hKD4⟩, hbw2, hkf2⟩
                      (fun y a'' _ => a'' = { tmps := #[.int .i64 (n : Int), .slice A ops.length c, .int .i64 leave, undef, undef, .pointer (some ⟨w.heap.size, 0, none⟩), .pointer (some ⟨w.heap.size + 1, 0, none⟩), .pointer (some ⟨w1.heap.size, 0, none⟩), .pointer (some ⟨w1.heap.size + 1, 0, none⟩), .bool true, u10, .int .i64 (i : Int), .pointer (some ⟨w3.heap.size, 0, none⟩), .pointer (some ⟨w3.heap.size + 1, 0, none⟩), .pointer (some ⟨W.heap.size, 0, none⟩), .int .i64 x.fst, .int .i64 x.snd, .pointer (some ⟨wr.heap.size, 0, none⟩), .int .i64 y.1, .int .i64 y.2, .tuple #[.pointer (some ⟨b, 0, none⟩), .slice (some ⟨gl, 0, none⟩) n cl, .bool true, .bool true], .int .i64 (n : Int), .tuple #[.pointer (some ⟨b, 0, none⟩), .slice (some ⟨gl, 0, none⟩) n cl, .bool true, .bool true], .pointer (some ⟨b, 0, none⟩), .slice (some ⟨gl, 0, none⟩) n cl, .bool true, .bool true, .bool true, .bool false, .bool false, .bool true, .bool false, .bool false, undef, .int .i64 (i : Int), .slice A ops.length c, .int .i64 (ops.length : Int), .bool false, u38, u39, u40, u41, u42, u43, u44, u45, u46, u47, u48, u49, u50, u51, .pointer (some ⟨b, 0, none⟩), .func (.func 43) #[] #[.pointer (some ⟨wa.heap.size, 0, none⟩)], .func (.func 43) #[] #[.pointer (some ⟨wa.heap.size, 0, none⟩)], .bool false, .func (.func 43) #[] #[.pointer (some ⟨wa.heap.size, 0, none⟩)], undef, undef, undef, undef, undef, undef, undef, .func (.func 43) #[] #[.pointer (some ⟨wa.heap.size, 0, none⟩)], .int .i64 x.fst, .int .i64 x.snd, .int .i64 (i2 : Int), .slice (some ⟨gl1, 0, none⟩) n cl1, .int .i64 (n : Int), .bool true, .bool true, .slice (some ⟨gl1, 0, none⟩) n cl1, .int .i64 (i2 : Int), .pointer (some ⟨gl1, i2 * 2, none⟩), .pointer (some ⟨gl1, i2 * 2, none⟩), .bool true, .bool false, .bool false, u79, u80, .int .i64 (i2 : Int), .slice (some ⟨gl1, 0, none⟩) n cl1, .int .i64 (n : Int), .bool false, .bool false, .int .i64 x.fst, .int .i64 (i2 : Int), .bool false, .bool false, .bool false, .int .i64 x.snd, .slice (some ⟨gl1, 0, none⟩) n cl1, .int .i64 (i2 : Int), .pointer (some ⟨gl1, i2 * 2, none⟩), .pointer (some ⟨gl1, i2 * 2 + 1, none⟩), .int .i64 v, .bool false, .bool false, .func (.func 43) #[] #[.pointer (some ⟨wa.heap.size, 0, none⟩)], .int .i64 y.1, .int .i64 y.2, undef, undef, undef, undef, undef, undef, undef, undef, undef, undef, undef, undef, undef, undef, undef, undef, undef, undef, undef, undef, undef, undef, undef, undef, undef, undef, undef, undef, undef, undef, undef, undef, undef, undef, undef, undef, undef, undef, undef, undef, undef, undef, undef, undef, undef, undef, undef], defers := [] }) (fun _ _ _ _ _ _ hs _ _ => hs) ?assign3 ?body3 ?done3 ?stop3
                    case assign3 =>
                      intro l3 pre3 y W3 K hi3 hK
                      gi_wp2
                      exact hK _ _ (KeepsFrom.refl _ _) ⟨Below.refl _ _, fun _ _ _ _ h => h⟩ hi3 rfl
                    case body3 =>
                      rintro l3 pre3 y a'' W3 hl3 _ ⟨⟨hb1, hb2⟩, ⟨hiv3, hKD3⟩, hbw3, hkf3⟩ rfl hlt3b
                      have M0 := Aside0.mk (And.intro (And.intro hb1 hb2) (And.intro (And.intro hiv3 hKD3) (And.intro hbw3 hkf3)))
                      have hcI := hb1.cell
                      have hfI := hb1.frozen
                      have hcL3 := (hiv3.get HQ.out.2.2.2.2.2.2.2.2.2 HB.out.2.1.2).cell
                      have hcR3 := (hiv3.get HQ.out.2.2.2.2.2.2.2.1 HB.out.1.2).cell
                      have hfR3 := (hiv3.get HQ.out.2.2.2.2.2.2.2.1 HB.out.1.2).frozen
                      have HP6 : Hid (pre3.length < 65536) := by show _ < _; have := LEN.out; omega
                      have HSZ := Go.Lib.hid (And.intro hszs hsV2)
                      have hsI := NQ.out wr.heap.size (by have h7 := hszs.2.2; have h8 := hsO; have h9 := hWW3.out; omega)
                      clear hb1 hb2 hiv3 hKD3 hbw3 hkf3 hszs hsV2 hww hdw hdv hl3 hlt3b hl2 hlt han hin z1 z2 z3 z4 z5 z6 z7 z8 hcO hfO hcL hcR hfR q0 q1
                      cases hg : hasL (toS L1) y.1 with
                      | false =>
                        have hT := HTK.out W3 M0.out.2.1.1 y.1
                        rw [hg] at hT
                        have HT := Aside0.mk hT
                        have HG := Aside0.mk hg
                        clear hT hg
                        gi_wp2_with (refine ⟨trivial, ?_⟩; gi_at_call 26; refine (CallsIn.inRound l3 (CallsIn.inRound l (callsIn_wide.2 HT.out))).mono ?_; rintro e w' ⟨rfl, ⟨q, rfl⟩⟩)
                        refine ⟨((KeepsOthers.drewN W3 q).trans (KeepsOthers.setCell _ _ _)).from _, y, List.mem_append_right _ (List.mem_singleton.2 rfl), fun h => ?_⟩
                        rw [HG.out] at h
                        exact absurd h.1 (by decide)
                      | true =>
                        obtain ⟨g0, g1, _⟩ := hasL_in hg
                        have hT := HTK.out W3 M0.out.2.1.1 y.1
                        rw [hg] at hT
                        have HT := Aside0.mk hT
                        have HG := Aside0.mk hg
                        have hLN := LEN.out.1
                        have z3 : 0 ≤ y.1 := g0
                        have z4 : y.1 < (n : Int) := by omega
                        have hq1 := (HCL.out W3 M0.out.2.1.1 y.1.toNat (by omega)).2
                        obtain ⟨v3, ev3⟩ : ∃ v3, v3 = ((toS L1).getD y.1.toNat (false, 0)).2 := ⟨_, rfl⟩
                        rw [← ev3] at hq1
                        have EV3 := Aside0.mk ev3
                        clear hT hg g0 g1 hLN ev3
                        by_cases e3 : y.2 = v3
                        · have z7 : (v3 != y.2) = false := by rw [e3]; simp
                          have z9 : wrap64 (((pre3.length : Nat) : Int) + 1) = ((pre3.length : Nat) : Int) + 1 := by have h : pre3.length < 65536 := HP6; unfold wrap64; omega
                          have E3 := Aside0.mk e3
                          clear e3
                          gi_wp2_with (refine ⟨trivial, ?_⟩; gi_at_call 26; refine (CallsIn.inRound l3 (CallsIn.inRound l (callsIn_wide.2 HT.out))).mono ?_; rintro e w' ⟨rfl, ⟨q, rfl⟩⟩)
                          have hwr : w.heap.size ≤ wr.heap.size := by have h := HSZ.out.1; omega
                          have hi5 : Inv w V0 Q n b vs vf1 (W3.drewN q) := M0.out.2.1.1.below (pw_below_drewN (Below.refl _ W3) q) HQ.out.1
                          have hi6 := hi5.put hwr hsI.1 hsI.2 (.int .i64 (((pre3.length : Nat) : Int) + 1))
                          have hb6 : Below w.heap.size W3 ((W3.drewN q).setCell ⟨wr.heap.size, 0, none⟩ (.int .i64 (((pre3.length : Nat) : Int) + 1))) := (pw_below_drewN (Below.refl w.heap.size W3) q).setCell (p := ⟨wr.heap.size, 0, none⟩) hwr _
                          have hko6 : KeepsOthers W3 ((W3.drewN q).setCell ⟨wr.heap.size, 0, none⟩ (.int .i64 (((pre3.length : Nat) : Int) + 1))) := (KeepsOthers.drewN W3 q).trans (KeepsOthers.setCell _ _ _)
                          refine ⟨hko6.from _, M0.out.2.1.1.kq hi6 hb6 HQ.out.2.2.2.1 HQ.out.2.2.2.2.1, ⟨?_, (show Boxed (W3.drewN q) W.heap.size 3 (.int .i64 (i2 : Int)) from M0.out.1.2).other (by have h := HSZ.out.1.2.2; omega) _⟩, ⟨hi6, hko6.same D _ M0.out.2.1.2 rfl⟩, M0.out.2.2.1.trans hb6, M0.out.2.2.2.trans (hko6.from _)⟩
                          have e : (((pre3 ++ [y]).length : Nat) : Int) = ((pre3.length : Nat) : Int) + 1 := by rw [List.length_append, List.length_singleton]; omega
                          rw [e]
                          exact Boxed.set (W := W3.drewN q) _ M0.out.1.1
                        · have z7 : (v3 != y.2) = true := bne_iff_ne.2 (fun h => e3 h.symm)
                          have E3 := Aside0.mk e3
                          clear e3
                          gi_wp2_with (refine ⟨trivial, ?_⟩; gi_at_call 26; refine (CallsIn.inRound l3 (CallsIn.inRound l (callsIn_wide.2 HT.out))).mono ?_; rintro e w' ⟨rfl, ⟨q, rfl⟩⟩)
                          refine ⟨((KeepsOthers.drewN W3 q).trans (KeepsOthers.setCell _ _ _)).from _, y, List.mem_append_right _ (List.mem_singleton.2 rfl), fun h => E3.out (h.2.trans EV3.out.symm)⟩
                    case done3 =>
                      rintro ys3 W3 rfl ⟨⟨hb1, hb2⟩, ⟨hiv3, hKD3⟩, hbw3, hkf3⟩
                      have hmx : Try.prog.follows .mixedOrders = true := by kernel_rfl
                      have M3 : Aside0 (Mid w V0 Q n b vs vf1 W.heap.size (.int .i64 (i2 : Int)) D W2 V1.heap.size W3) := ⟨⟨hiv3, hb2, hKD3, hbw3, hkf3⟩⟩
                      have MD : Aside0 (∀ k, Mid w V0 Q n b vs vf1 W.heap.size (.int .i64 (i2 : Int)) D W2 V1.heap.size (W3.drewN k)) := ⟨fun k => M3.out.below (pw_below_drewN (Below.refl _ W3) k) HQ.out.1⟩
                      have hcI := hb1.cell
                      have hcL3 := (hiv3.get HQ.out.2.2.2.2.2.2.2.2.2 HB.out.2.1.2).cell
                      have hcP3 := (hiv3.get HQ.out.2.2.2.2.2.2.2.2.1 HB.out.2.1.1).cell
                      have HSZ := Go.Lib.hid (And.intro hszs hsV2)
                      have hu0 := HUS.out W3.drew (M3.out.below ((Below.refl _ W3).drew) HQ.out.1).1
                      obtain ⟨ct, hct⟩ : ∃ ct, ct = ((takenTo (toS L1) (toS L1).length).length : Nat) := ⟨_, rfl⟩
                      rw [← hct] at hcI hu0
                      have HU0 : Aside0 (Calls Try.prog 23 #[.slice (some ⟨gl1, 0, none⟩) n cl1] W3.drew fun e w' => e = .returned (.int .i64 (ct : Int)) ∧ Drawn0 W3.drew w') := ⟨hu0⟩
                      clear hu0
                      have HCT := Aside0.mk hct
                      have zO : wrap64 ((i2 : Int) + 1) = (i2 : Int) + 1 := by have h1 : i2 < n := C1.out; have h2 := LEN.out; unfold wrap64; omega
                      clear hb1 hb2 hiv3 hKD3 hbw3 hkf3 hszs hsV2 hww hdw hdv hl2 hlt han hin z1 z2 z3 z4 z5 z6 z7 z8 hcO hfO hcL hcR hfR q0 q1 hct
                      gi_wp2
                      refine wpIn_region_any hmx ?_
                      change wpAnyIn _ _ _ _ _ _ _ _ _ (World.drew _)
                      all_goals (refine wpAnyIn_ready (rs := [0, 1]) (by decide +kernel) (by simp) ?_; refine AllReadyIn.cons rfl (fun K hK => ?_) (AllReadyIn.cons rfl (fun K hK => ?_) (AllReadyIn.nil)) <;> (go_simp; refine hK _ _ ?_; clear hK K))
                      all_goals first
                        | (refine wpAnyIn_ready (rs := [1]) (by decide +kernel) (by simp) ?_; refine AllReadyIn.cons rfl (fun K hK => ?_) (AllReadyIn.nil); (go_simp; refine hK _ _ ?_; clear hK K))
                        | (refine wpAnyIn_ready (rs := [0, 2]) (by decide +kernel) (by simp) ?_; refine AllReadyIn.cons rfl (fun K hK => ?_) (AllReadyIn.cons rfl (fun K hK => ?_) (AllReadyIn.nil)); (focus (go_simp; refine hK _ _ ?_; clear hK K)); rotate_left; (focus (go_simp; gi_wp2_with (refine ⟨trivial, ?_⟩; gi_at_call 23; refine (CallsIn.inRound l (callsIn_wide.2 HU0.out)).mono ?_; rintro e w' ⟨rfl, ⟨jd, rfl⟩⟩))))
                      all_goals first
                        | (refine wpAnyIn_ready (rs := [2]) (by decide +kernel) (by simp) ?_; refine AllReadyIn.cons rfl (fun K hK => ?_) (AllReadyIn.nil); (go_simp; gi_wp2_with (refine ⟨trivial, ?_⟩; gi_at_call 23; refine (CallsIn.inRound l (callsIn_wide.2 HU0.out)).mono ?_; rintro e w' ⟨rfl, ⟨jd, rfl⟩⟩)))
                        | (refine wpAnyIn_ready (rs := [0]) (by decide +kernel) (by simp) ?_; refine AllReadyIn.cons rfl (fun K hK => ?_) (AllReadyIn.nil); (go_simp; refine hK _ _ ?_; clear hK K))
                      all_goals (refine wpAnyIn_ready (rs := [3]) (by decide +kernel) (by simp) ?_; refine AllReadyIn.cons rfl (fun K hK => ?_) (AllReadyIn.nil); (go_simp; refine hK _ _ ?_; clear hK K))
                      all_goals refine wpAnyIn_done (by kernel_rfl) ?_ _
                      all_goals
                        gi_wp2_with (first
                          | (refine ⟨trivial, ?_⟩; gi_at_call 27; refine (CallsIn.inRound l (callsIn_wide.2 (live_set M6.out.1.2.1 x.1 (-7)))).mono ?_; rintro e w7 ⟨r7, rfl, hL7, hK7, hB7⟩; have M7 := Aside0.mk (M6.out.call hL7 hK7 hB7 HQ.out.2.1 HQ.out.1 hsO.2 HFD.out HFT.out); have hcO7 := M7.out.2.1.cell; have hfO7 := M7.out.2.1.frozen; clear hL7 hK7 hB7)
                          | (refine ⟨trivial, ?_⟩; gi_at_call 18; refine (CallsIn.inRound l (callsIn_wide.2 (live_take M5.out.1.2.1 HN.out.2 (-5)))).mono ?_; rintro e w6 ⟨r6, s6, rfl, hL6, hK6, hB6⟩; have M6 := Aside0.mk (M5.out.call hL6 hK6 hB6 HQ.out.2.1 HQ.out.1 hsO.2 HFD.out HFT.out); have hcP6 := (M6.out.1.get HQ.out.2.2.2.2.2.2.2.2.1 HB.out.2.1.1).cell; clear hL6 hK6 hB6)
                          | (refine ⟨trivial, ?_⟩; gi_at_call 19; refine (CallsIn.inRound l (callsIn_wide.2 (live_give (MD.out (1 + jd)).1.2.1 HN.out.2 x.1))).mono ?_; rintro e w5 ⟨r5, s5, rfl, hL5, hK5, hB5⟩; have M5 := Aside0.mk ((MD.out (1 + jd)).call hL5 hK5 hB5 HQ.out.2.1 HQ.out.1 hsO.2 HFD.out HFT.out); have hcP5 := (M5.out.1.get HQ.out.2.2.2.2.2.2.2.2.1 HB.out.2.1.1).cell; clear hL5 hK5 hB5))
                        have hwW9 : w.heap.size ≤ W.heap.size := HWW.out.1
                        have hi8 := M7.out.1.put hwW9 hsO.1 hsO.2 (.int .i64 ((i2 : Int) + 1))
                        have hko8 : KeepsOthers w7 (w7.setCell ⟨W.heap.size, 0, none⟩ (.int .i64 ((i2 : Int) + 1))) := KeepsOthers.setCell _ _ _
                        have hb8 : Below w.heap.size W2 (w7.setCell ⟨W.heap.size, 0, none⟩ (.int .i64 ((i2 : Int) + 1))) := M7.out.2.2.2.1.setCell (p := ⟨W.heap.size, 0, none⟩) hwW9 _
                        refine ⟨M7.out.2.2.2.2.trans (hko8.from _), HI2.out.kq hi8 hb8 HQ.out.2.2.2.1 HQ.out.2.2.2.2.1, ⟨i2 + 1, ?_, ?_, C1.out⟩, hi8, hko8.same D _ M7.out.2.2.1 rfl⟩
                        · rw [show (((i2 + 1 : Nat)) : Int) = (i2 : Int) + 1 from by omega]
                          exact Boxed.set _ M7.out.2.1
                        · rw [runW_snoc, HRUN.out]
                          exact HST.out.trans (if_pos E12.out)
                    case stop3 =>
                      rintro c3 pre3 W3 ⟨k, hk, rfl⟩ ⟨y, hy, hbad⟩
                      exact absurd (taken_good hk hy) hbad
                  · have z6 : (x.1 != (i2 : Int)) = false := by rw [e1]; simp
                    have z7 : (x.2 != v) = true := bne_iff_ne.2 e2
                    have E12 : Hid (¬ (x.1 = (i2 : Int) ∧ x.2 = v)) := fun h => e2 h.2
                    clear e1 e2
                    gi_wp2
                    refine ⟨(K0.out.2.2.1.trans (KeepsOthers.setCell _ _ _)).from _, ?_⟩
                    show runW (toS L1) _ = none
                    rw [runW_snoc, HRUN.out]
                    exact HST.out.trans (if_neg E12.out)
                · have z6 : (x.1 != (i2 : Int)) = true := bne_iff_ne.2 e1
                  have E12 : Hid (¬ (x.1 = (i2 : Int) ∧ x.2 = v)) := fun h => e1 h.1
                  clear e1
                  gi_wp2
                  refine ⟨(K0.out.2.2.1.trans (KeepsOthers.setCell _ _ _)).from _, ?_⟩
                  show runW (toS L1) _ = none
                  rw [runW_snoc, HRUN.out]
                  exact HST.out.trans (if_neg E12.out)
            · have z1 : decide ((i2 : Int) < (n : Int)) = false := decide_eq_false (by omega)
              have z9 : decide (i2 < n) = false := decide_eq_false c1
              have z2 : ((i2 : Int) == (n : Int)) = true := beq_iff_eq.2 (by omega)
              have hst : stepW (toS L1) a x = none := by
                have hle := LEN.out
                unfold stepW
                rw [if_neg]
                intro h
                have h1 := h.1
                rw [← K2.2.1, skip_end (by omega)] at h1
                omega
              have HST := Aside0.mk hst
              have HRUN := Aside0.mk hrun
              clear hst hrun c1 hin
              gi_wp2
              refine ⟨(K0.out.2.2.1.trans (KeepsOthers.setCell _ _ _)).from _, ?_⟩
              show runW (toS L1) _ = none
              rw [runW_snoc, HRUN.out]
              exact HST.out
        case done2 =>
          rintro D2 ys2 W4 hD2 rfl ⟨⟨a, ha, hrun, han⟩, hiv4, hKD4⟩ hK4
          have hsO := NQ.out W.heap.size (by omega)
          have hDD : D ≠ D2 := by omega
          have HDD := Aside0.mk (And.intro hDD hD2)
          have HD1 := Go.Lib.hid (And.intro hWV (And.intro hsV (And.intro hsz3 hW1)))
          clear hlt3 hsV hgn hgn2 hW1 hsz3 hWV hD hDW hsV1 hDD hD2
          gi_wp2
          gi_loopg [] (n + 1 - a) (fun kx wq => ∃ i2 : Nat, Boxed wq W.heap.size 3 (.int .i64 (i2 : Int)) ∧ (i2 ≤ n ∧ skip (toS L1) i2 = skip (toS L1) a ∧ n < i2 + kx) ∧ (Inv w V0 Q n b vs vf1 wq ∧ wq.heap[D]? = some (.deferred (some []))) ∧ wq.heap[D2]? = some (.deferred (some [])))
          case atStart => exact ⟨a, ha, ⟨han, rfl, by omega⟩, ⟨hiv4, hKD4⟩, hK4⟩
          case round =>
            obtain ⟨i2, hi2, ⟨hin, hsk, hik⟩, ⟨hiv2, hKD2⟩, hK2⟩ := hrel
            have hcO := hi2.cell
            have hfO := hi2.frozen
            have hcL := (hiv2.get HQ.out.2.2.2.2.2.2.2.2.2 HB.out.2.1.2).cell
            have hcR := (hiv2.get HQ.out.2.2.2.2.2.2.2.1 HB.out.1.2).cell
            have hfR := (hiv2.get HQ.out.2.2.2.2.2.2.2.1 HB.out.1.2).frozen
            have K0 := Aside0.mk (And.intro (And.intro hi2 hiv2) (And.intro hKD2 hK2))
            have K2 : Hid (i2 ≤ n ∧ skip (toS L1) i2 = skip (toS L1) a ∧ n < i2 + gk) := ⟨hin, hsk, hik⟩
            clear hi2 hiv2 hKD2 hK2 hsk hik ha hiv4 hKD4 hK4
            by_cases c1 : i2 < n
            · obtain ⟨q0, q1⟩ := HCL.out wr K0.out.1.2 i2 c1
              have z1 : decide ((i2 : Int) < (n : Int)) = true := decide_eq_true (by omega)
              have z2 : ((i2 : Int) == (n : Int)) = false := beq_eq_false_iff_ne.2 (by omega)
              have z3 : 0 ≤ (i2 : Int) := by omega
              have z4 : (i2 : Int) < (n : Int) := by omega
              have z5 : wrap64 ((i2 : Int) + 1) = ((i2 + 1 : Nat) : Int) := by have := LEN.out; unfold wrap64; omega
              have C1 := Go.Lib.hid c1
              clear c1 q1
              cases e : ((toS L1).getD i2 (false, 0)).1 with
              | false =>
                rw [e] at q0
                have E := Go.Lib.hid e
                clear e
                gi_wp2
                go_roundg (n - i2)
                case measure => exact meas K2.2.2 C1.out
                case rel =>
                  have hc := C1.out
                  have hle := LEN.out
                  exact ⟨i2 + 1, Boxed.set _ K0.out.1.1, ⟨hc, (skip_next (by rw [hle.1]; exact hc) E.out).symm.trans K2.2.1, meas2 hc⟩, ⟨K0.out.1.2.put HWW.out.1 hsO.1 hsO.2 _, (KeepsOthers.setCell _ _ _).same D _ K0.out.2.1 rfl⟩, (KeepsOthers.setCell _ _ _).same D2 _ K0.out.2.2 rfl⟩
              | true =>
                exfalso
                have hle := LEN.out
                obtain ⟨a2, r1, r2, r3⟩ := runW_taken (toS L1) (toS L1).length (Nat.le_refl _)
                rw [r1] at hrun
                injection hrun with hrun
                subst hrun
                have h1 := skip_far (toS L1).length (Nat.le_refl _) _ a2 rfl r2 r3
                rw [skip_end (Nat.le_refl _), ← K2.2.1, skip_here e] at h1
                have := C1.out
                omega
            · obtain rfl : i2 = n := by omega
              have z1 : decide ((i2 : Int) < (i2 : Int)) = false := decide_eq_false (by omega)
              have z2 : ((i2 : Int) == (i2 : Int)) = true := beq_self_eq_true _
              have hKa := K0.out.2.1
              have hKb := K0.out.2.2
              clear c1 hin hrun han
              gi_wp2
              have hlo1 : w.heap.size ≤ D := by have h1 := HD1.out.1; have h2 := HD1.out.2.1; have h3 := HD1.out.2.2.1.1; omega
              have hlo2 : w.heap.size ≤ D2 := by have h1 := hiv1.2.2.size; have h2 := HDD.out.2; omega
              have hKb' : (wr.setCell ⟨w.heap.size + 1, 0, none⟩ (.bool true)).heap[D2]? = some (.deferred (some [])) := (KeepsOthers.setCell _ _ _).same D2 _ hKb rfl
              have hKa' : ((wr.setCell ⟨w.heap.size + 1, 0, none⟩ (.bool true)).putObj D2 (.deferred none)).heap[D]? = some (.deferred (some [])) := (World.putObj_heap_other HDD.out.1).trans ((KeepsOthers.setCell _ _ _).same D _ hKa rfl)
              refine ⟨by simp, .inl ⟨_, _, rfl, run_takeDeferred hKb', ?_⟩⟩
              refine ⟨by simp, .inl ⟨_, _, rfl, run_takeDeferred hKa', ?_⟩⟩
              have hc4 := cell_kept (World.cell?_setCell_same' wr ⟨w.heap.size + 1, 0, none⟩ (.bool true) (by rw [hcR]; rfl)) (grownBy_putObj' _ D2 (.deferred none)) (fun r e => by cases e; exact ⟨_, hKb', rfl⟩)
              have hc5 := cell_kept hc4 (grownBy_putObj' _ D (.deferred none)) (fun r e => by cases e; exact ⟨_, hKa', rfl⟩)
              refine ⟨.bool true, ?_, rfl, ?_⟩
              · simp [results, Try.f7, go_sem, hc5]
              · exact ((K0.out.1.2.2.2.setCell (p := ⟨w.heap.size + 1, 0, none⟩) (show w.heap.size ≤ w.heap.size + 1 by omega) _).trans (belowK_b (w := w) (Nat.le_refl _) _ D2 _ _ hlo2 hKb' rfl rfl)).trans (belowK_b (w := w) (Nat.le_refl _) _ D _ _ hlo1 hKa' rfl rfl)
        case stop2 =>
          rintro D2 c2 pre W2 hD2 ⟨k, hk, rfl⟩ hx _
          obtain ⟨a, h1, _⟩ := runW_taken (toS L1) k hk
          rw [h1] at hx
          cases hx
end Go.Proofs.Ytmcmkdpidppcaaa.St
