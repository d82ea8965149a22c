/- QueueWalk: the law's walk. -/
import Derived.Deep.RegionWith
import Derived.Laws.EntriesVeiled
import Derived.Sort.LoopGhostIn
import Derived.Test.YtgolghimefageaaQWalk1
import Derived.Test.YtgolghimefageaaQWalk5
import Derived.Test.YtgolghimefageaaQAwakeM
import Derived.Test.YtgolghimefageaaQJoin
namespace Go.Proofs.Ytgolghimefageaa.QW
set_option linter.unusedVariables false
open Go.Proofs Go.RowKit Go.Shelf Go.Proofs.YtgolghimefageaaW.PrintWords Go.Proofs.YtgolghimefageaaW.PrintLast Go.Proofs.YtgolghimefageaaW.PrintMore Go.Proofs.Ytgolghimefageaa.St Go.Proofs.Ytgolghimefageaa.C
attribute [local go_sem] Oper.semAt_some
/-- How the keys lie. -/
def KeyRow (w : World) (A : Option Addr) (keys : List Int) : Prop := ∀ j, j < keys.length → ∃ ad, A = some ad ∧ w.cell? (ad.add j) = some (.int .i64 (keys.getD j 0))
theorem KeyRow.kept {w W : World} {A : Option Addr} {keys : List Int} (h : KeyRow w A keys) (hB : Below w.heap.size w W) : KeyRow W A keys := fun j hj => by
  obtain ⟨ad, e, h0⟩ := h j hj
  exact ⟨ad, e, (hB.cell (World.block_lt_of_cell? w _ h0)).trans h0⟩
theorem LW.conv {w W : World} {b qB mB : Nat} {leave : Int} {E : List El} {L : List S68} {nx mnx nx' mnx' : Int} {lv lv' : Value} (h : LW w W b qB mB leave E L nx mnx lv) (e1 : nx = nx') (e2 : mnx = mnx') (e3 : lv = lv') : LW w W b qB mB leave E L nx' mnx' lv' := by
  subst e1 e2 e3
  exact h
theorem hao (w : World) (o : Obj) {k : Nat} (h : k < w.heap.size) : (w.alloc o).heap[k]? = w.heap[k]? := (World.grownBy_alloc w o none).block k h (fun e => by cases e)
set_option maxRecDepth 100000 in
set_option maxHeartbeats 40000000 in
theorem walk_in (A : Option Addr) (c : Nat) (keys : List Int) (leave : Int) (w : World) (hO : KeyRow w A keys) (hl : keys.length ≤ 4611686018427387904) :
    CallsIn Fence.wide 6 Try.prog 6 #[.slice A keys.length c, .int .i64 leave] w fun e w' => e = .returned (.bool true) ∧ Below w.heap.size w w' := by
  have HO := Aside0.mk hO
  have HL := Go.Lib.hid hl
  have hs1 : (w.alloc (.cells #[.int .i64 leave] 3)).heap.size = w.heap.size + 1 := World.size_alloc _ _
  have hs2 : ((w.alloc (.cells #[.int .i64 leave] 3)).alloc (.cells #[.bool false] 4)).heap.size = w.heap.size + 2 := by rw [World.size_alloc, hs1]
  have HNW := Aside0.mk (new_calls 65536 (by omega) ((w.alloc (.cells #[.int .i64 leave] 3)).alloc (.cells #[.bool false] 4)))
  rw [hs2] at HNW
  clear hO hl
  refine callsIn_of_wp_marks Try.func6 rfl trivial ?_ rfl
  simp only [Try.ntmps6, List.size_toArray, List.length_cons, List.length_nil, Nat.reduceAdd, Nat.reduceSub, Array.replicate_succ, Array.replicate_zero, List.push_toArray, List.append_toArray, List.nil_append, List.cons_append]
  gi_wp2_with (first
    | (refine ⟨trivial, ?_⟩; gi_at_call 8; refine (callsIn_wide.2 (QT.awake_calls _)).mono ?_; rintro e w2 ⟨rfl, hB2⟩; have bQ2 : Boxed w2 w1.heap.size 56 (.pointer (some ⟨b, 0, none⟩)) := (hB2.block _ (by simp)).trans (Boxed.new w1 _ _); have cQ2 := bQ2.cell; have H2 := Aside0.mk (And.intro hB2 bQ2); have eqq := eqp ⟨b, 0, none⟩; clear hB2 bQ2)
    | (refine ⟨trivial, ?_⟩; gi_at_call 22; refine (callsIn_wide.2 HNW.out).mono ?_; rintro e w1 ⟨b, mb, rfl, hQ, hB1⟩; have H1 := Aside0.mk (And.intro hQ hB1); clear hQ hB1 HNW))
  have hs3 : (w1.alloc (.cells #[.pointer (some ⟨b, 0, none⟩)] 56)).heap.size = w1.heap.size + 1 := World.size_alloc _ _
  obtain ⟨W0, hW0⟩ : ∃ W0, W0 = w2.alloc (.cells #[.int .i64 65536, .slice none 0 0, .int .i64 0] 54) := ⟨_, rfl⟩
  have hsz1 := H1.out.2.size
  rw [hs2] at hsz1
  have hsz2 := H2.out.1.size
  rw [hs3] at hsz2
  have hk12 : ∀ k, k < w1.heap.size → W0.heap[k]? = w1.heap[k]? := fun k hk => by
    rw [hW0]
    exact (hao w2 _ (by omega)).trans ((H2.out.1.block k (by rw [hs3]; omega)).trans (hao w1 _ hk))
  have S0 : Aside0 (LW w W0 b w1.heap.size w2.heap.size leave [] [] 0 0 (.slice none 0 0)) := by
    have hQ0 : QAt w.heap.size W0 (Foot b (.slice none 0 0) mb []) b (.slice none 0 0) mb 0 [] 65536 0 0 := by
      have h1 := (H1.out.1.tight.lower (n1 := w.heap.size) (by omega)).kept (w' := W0) (S := fun k => w1.heap.size ≤ k) ⟨by rw [hW0, World.size_alloc]; omega, fun k hk _ => hk12 k hk⟩ (fun k hk h => by have := hk.2; have h : w1.heap.size ≤ k := h; omega)
      exact h1.exact_
    have hB0 : Below w.heap.size w W0 := by
      rw [hW0]
      have h1 : Below w.heap.size w w1 := (below_alloc (below_alloc (Below.refl _ w) _) _).trans (H1.out.2.mono (by omega))
      exact below_alloc (h1.trans ((below_alloc (Below.refl _ w1) _).mono (by omega) |>.trans (H2.out.1.mono (by omega)))) _
    have bE : Boxed W0 w.heap.size 3 (.int .i64 leave) := by
      have b1 : Boxed w1 w.heap.size 3 (.int .i64 leave) := (H1.out.2.block w.heap.size (by omega)).trans ((Boxed.new w 3 _).alloc _)
      exact (hk12 _ (by omega)).trans b1
    have bR : Boxed W0 (w.heap.size + 1) 4 (.bool false) := by
      have h := Boxed.new (w.alloc (.cells #[.int .i64 leave] 3)) 4 (.bool false)
      rw [hs1] at h
      have b1 : Boxed w1 (w.heap.size + 1) 4 (.bool false) := (H1.out.2.block (w.heap.size + 1) (by omega)).trans h
      exact (hk12 _ (by omega)).trans b1
    have bQ : Boxed W0 w1.heap.size 56 (.pointer (some ⟨b, 0, none⟩)) := by rw [hW0]; exact H2.out.2.alloc _
    exact ⟨⟨(.slice none 0 0), mb, 0, 0, hQ0, Nat.le_refl _, Int.le_refl _, Int.le_refl _⟩, rfl, by simp, (fun x hx => by cases hx), bE, bR, bQ, by rw [hW0]; exact heap_alloc_new w2 _, Kd.R_nil _ _ _ _ _, by omega, hB0⟩
  have hszm : w.heap.size + 2 ≤ w1.heap.size ∧ w1.heap.size < w2.heap.size := ⟨by omega, by omega⟩
  rw [← hW0]
  clear hW0 hk12 hs1 hs2 hs3 hsz1 hsz2 H1 H2 cQ2
  gi_loopg [41] (keys.length + 1) (fun kx s41 wr => ∃ (i : Nat) (E : List El) (la : Option Addr) (lc : Nat), s41 = .int .i64 (i : Int) ∧ Hid (i ≤ keys.length ∧ keys.length < i + kx ∧ E.length = min i 65536) ∧ Aside0 (LW w wr b w1.heap.size w2.heap.size leave E (docs E) (E.length : Int) (E.length : Int) (.slice la E.length lc) ∧ w2.heap.size < wr.heap.size))
  case atStart => exact ⟨0, [], none, 0, rfl, ⟨Nat.zero_le _, by omega, by simp⟩, ⟨S0.out, (Array.getElem?_eq_some_iff.1 S0.out.bM).1⟩⟩
  case round =>
    clear S0
    obtain ⟨i, E, la, lc, rfl, hi, H1⟩ := hrel
    have cE := H1.out.1.bE.cell
    have cQ := H1.out.1.bQ.cell
    by_cases ci : i < keys.length
    · obtain ⟨ad, rfl, h0⟩ := (HO.out.kept H1.out.1.bel) i ci
      obtain ⟨x0, e0⟩ : ∃ x, x = keys.getD i 0 := ⟨_, rfl⟩
      rw [← e0] at h0
      have z1 : decide ((i : Int) < (keys.length : Int)) = true := decide_eq_true (by omega)
      have z3 : 0 ≤ (i : Int) := by omega
      have z4 : (i : Int) < (keys.length : Int) := by omega
      have zi : wrap64 ((i : Int) + 1) = ((i + 1 : Nat) : Int) := by have := HL.out; unfold wrap64; omega
      have CI := Go.Lib.hid ci
      clear e0 ci
      by_cases cl : E.length < 65536
      · have hEi : E.length = i := by have := hi.2.2; omega
        have HP : Aside0 (Calls Try.prog 23 #[.pointer (some ⟨b, 0, none⟩), .int .i64 x0, .int .i64 (i : Int)] wr fun e w' => e = .returned (.tuple #[.int .i64 (i : Int), .int .i64 0]) ∧ ∃ y : El, y.k = x0 ∧ y.ticket = (i : Int) ∧ (∀ x ∈ E, x.came < y.came) ∧ LW w w' b w1.heap.size w2.heap.size leave (ins E y) (docs E) ((i : Int) + 1) (i : Int) (.slice la E.length lc)) := ⟨by
          have h := H1.out.1.put_yes cl x0
          rw [hEi] at h ⊢
          exact h⟩
        have HC := Go.Lib.hid (And.intro cl hEi)
        clear cl hEi
        gi_wp2_with (first
          | (refine ⟨trivial, ?_⟩; gi_at_call 24; refine (callsIn_wide.2 (H3.out.2.2.2.2 i)).mono ?_; rintro e w4 ⟨lv4, rfl, hM4, ⟨a4, c4, hlv4⟩, hLW4⟩; subst hlv4; have d0 := cells_at hM4 0 _ rfl; have d1 := cells_at hM4 1 _ rfl; have d2 := cells_at hM4 2 _ rfl; have g0 := frozen_at hM4; have H4 := Aside0.mk (And.intro hM4 hLW4); clear hM4 hLW4)
          | (refine ⟨trivial, ?_⟩; gi_at_call 23; refine (callsIn_wide.2 HP.out).mono ?_; rintro e w3 ⟨rfl, y, hyk, hyt, hyc, hLW3⟩; have c0 := cells_at hLW3.bM 0 _ rfl; have c1 := cells_at hLW3.bM 1 _ rfl; have c2 := cells_at hLW3.bM 2 _ rfl; have cQ3 := hLW3.bQ.cell; have H3 := Aside0.mk (And.intro hyk (And.intro hyt (And.intro hyc (And.intro hLW3 (fun (z : Nat) => hLW3.ref x0 (E.length + 1) (by have h := ref_put E HC.out.1 y hyc (by rw [hyt]; have := HC.out; omega); rw [hyt, hyk] at h; exact h)))))); clear hyk hyt hyc hLW3))
        go_roundg (keys.length - i)
        case measure => have := hi.2.1; have := CI.out; omega
        case rel =>
          have hl : (ins E y).length = i + 1 := by rw [ins_len]; have := HC.out.2; omega
          refine ⟨i + 1, ins E y, a4, c4, congrArg (Value.int .i64) zi, ⟨CI.out, by have := CI.out; omega, by rw [hl]; have := HC.out; omega⟩, ⟨?_, ?_⟩⟩
          · exact H4.out.2.conv (by rw [hl]; rfl) (by rw [hl]; rfl) (by rw [docs_len])
          · have h5 := (Array.getElem?_eq_some_iff.1 H4.out.1).1
            simp
            exact h5
      · have HC := Go.Lib.hid (show 65536 ≤ E.length by omega)
        have HP : Aside0 (∀ z : Nat, Calls Try.prog 23 #[.pointer (some ⟨b, 0, none⟩), .int .i64 x0, .int .i64 (i : Int)] wr fun e w' => e = .returned (.tuple #[.int .i64 0, .int .i64 61]) ∧ LW w w' b w1.heap.size w2.heap.size leave E (docs E) (E.length : Int) (E.length : Int) (.slice la E.length lc)) := ⟨fun _ => H1.out.1.put_no cl x0 i⟩
        clear cl
        gi_wp2_with (first
          | (refine ⟨trivial, ?_⟩; gi_at_call 24; refine (callsIn_wide.2 (H3.out.2 i)).mono ?_; rintro e w4 ⟨lv4, rfl, hM4, ⟨a4, c4, hlv4⟩, hLW4⟩; subst hlv4; have d0 := cells_at hM4 0 _ rfl; have d1 := cells_at hM4 1 _ rfl; have d2 := cells_at hM4 2 _ rfl; have g0 := frozen_at hM4; have H4 := Aside0.mk (And.intro hM4 hLW4); clear hM4 hLW4)
          | (refine ⟨trivial, ?_⟩; gi_at_call 23; refine (callsIn_wide.2 (HP.out i)).mono ?_; rintro e w3 ⟨rfl, hLW3⟩; have c0 := cells_at hLW3.bM 0 _ rfl; have c1 := cells_at hLW3.bM 1 _ rfl; have c2 := cells_at hLW3.bM 2 _ rfl; have cQ3 := hLW3.bQ.cell; have H3 := Aside0.mk (And.intro hLW3 (fun (z : Nat) => hLW3.ref x0 0 (ref_full E HC.out 0 (E.length : Int) x0))); clear hLW3))
        go_roundg (keys.length - i)
        case measure => have := hi.2.1; have := CI.out; omega
        case rel =>
          refine ⟨i + 1, E, a4, c4, congrArg (Value.int .i64) zi, ⟨CI.out, by have := CI.out; omega, by have := hi.2.2; have := HC.out; omega⟩, ⟨H4.out.2.conv rfl rfl (by rw [docs_len]), ?_⟩⟩
          have h5 := (Array.getElem?_eq_some_iff.1 H4.out.1).1
          simp
          exact h5
    · have z1 : decide ((i : Int) < (keys.length : Int)) = false := decide_eq_false (by omega)
      have z2 : decide (i < keys.length) = false := decide_eq_false ci
      obtain ⟨wa, hwa⟩ : ∃ wa, wa = wr := ⟨_, rfl⟩
      subst hwa
      clear hi ci
      obtain ⟨vl, mb, nm, came, hQ, hnm, hc0, hc1⟩ := H1.out.1.q
      have HAC := Aside0.mk (all_calls hQ H1.out.1.len)
      have HQ0 := Aside0.mk (And.intro hQ (And.intro hnm (And.intro hc0 hc1)))
      clear hQ hnm hc0 hc1
      have eqn : ∀ (caps : Array Value) (w : World), (binOp .eql 63 (.func (.func 45) #[] caps) .nilFunc).run Try.prog w = .ok (.bool false) w := fun caps w => by kernel_rfl
      gi_wp2_with (refine ⟨trivial, ?_⟩; gi_at_call 28; refine (callsIn_wide.2 HAC.out).mono ?_; rintro e w3 ⟨g, v, rfl, hgg, hg3, hown3, hB3⟩; subst hgg; have heq := eqn #[.pointer (some ⟨wa.heap.size, 0, none⟩)]; have H3 := Aside0.mk (And.intro hg3 (And.intro hown3 hB3)); clear hg3 hown3 hB3)
      -- THE LOOPS OVER THE ITERATOR
      have hlt3 : wa.heap.size + 1 ≤ w3.heap.size := by have := (Array.getElem?_eq_some_iff.1 H3.out.1).1; omega
      have hsA : (w3.alloc (.cells #[.func (.func 45) #[] #[.pointer (some ⟨wa.heap.size, 0, none⟩)]] 63)).heap.size = w3.heap.size + 1 := World.size_alloc _ _
      obtain ⟨ga, capn, hv⟩ := own_form H3.out.2.1
      subst hv
      obtain ⟨gn, cur, hga, hgr, hcur, hgn, hgn2⟩ : ∃ gn cur, (0 < E.length → ga = some ⟨gn, 0, none⟩) ∧ (0 < E.length → w3.heap[gn]? = some (.cells cur 102 (0, 0))) ∧ (∀ (j : Nat) (u : Value), (elRow E)[j]? = some u → cur[j]? = some u) ∧ (∃ c t, w3.heap[gn]? = some (.cells c t (0, 0))) ∧ wa.heap.size ≤ gn := by
        rcases H3.out.2.1.2 with ⟨h', h0⟩ | ⟨g', cap', cur, h', hb, hh, _⟩
        · have hE : E = [] := List.length_eq_zero_iff.1 h0
          subst hE
          exact ⟨wa.heap.size, #[], (fun h => by simp at h), (fun h => by simp at h), (fun j u hu => by simp [elRow] at hu), ⟨_, _, H3.out.1⟩, Nat.le_refl _⟩
        · injection h' with h1
          refine ⟨g', cur, fun _ => h1, fun _ => hh, fun j u hj => ?_, ⟨_, _, hh⟩, by omega⟩
          have ho := H3.out.2.1
          rw [h1] at ho
          have hc := own_cell ho j u hj
          rwa [cell_of_row w3 g' j cur _ (0, 0) hh] at hc
      obtain ⟨V0, hV0⟩ : ∃ V0, V0 = (w3.alloc (.cells #[.func (.func 45) #[] #[.pointer (some ⟨wa.heap.size, 0, none⟩)]] 63)).alloc (.cells #[.int .i64 0] 3) := ⟨_, rfl⟩
      have hk03 : ∀ k, k < w3.heap.size → V0.heap[k]? = w3.heap[k]? := fun k hk => by rw [hV0]; exact (hao _ _ (by rw [hsA]; omega)).trans (hao w3 _ hk)
      have hk0 : ∀ k, k < wa.heap.size → V0.heap[k]? = wa.heap[k]? := fun k hk => (hk03 k (by omega)).trans (H3.out.2.2.block k hk)
      have hsV : V0.heap.size = w3.heap.size + 2 := by rw [hV0, World.size_alloc, hsA]
      have bNow : Boxed V0 wa.heap.size 106 (.slice ga E.length capn) := (hk03 _ (by omega)).trans H3.out.1
      have bRow : 0 < E.length → V0.heap[gn]? = some (.cells cur 102 (0, 0)) := fun h => (hk03 _ (Array.getElem?_eq_some_iff.1 (hgr h)).1).trans (hgr h)
      have bAll : Boxed V0 w3.heap.size 63 (.func (.func 45) #[] #[.pointer (some ⟨wa.heap.size, 0, none⟩)]) := by rw [hV0]; exact (Boxed.new w3 _ _).alloc _
      have bCnt : Boxed V0 (w3.heap.size + 1) 3 (.int .i64 ((0 : Nat) : Int)) := by
        have h := Boxed.new (w3.alloc (.cells #[.func (.func 45) #[] #[.pointer (some ⟨wa.heap.size, 0, none⟩)]] 63)) 3 (.int .i64 0)
        rw [hsA] at h
        rw [hV0]
        exact h
      have bE : Boxed V0 w.heap.size 3 (.int .i64 leave) := (hk0 _ H1.out.1.bE.lt).trans H1.out.1.bE
      have bR : Boxed V0 (w.heap.size + 1) 4 (.bool false) := (hk0 _ H1.out.1.bR.lt).trans H1.out.1.bR
      have bQ : Boxed V0 w1.heap.size 56 (.pointer (some ⟨b, 0, none⟩)) := (hk0 _ H1.out.1.bQ.lt).trans H1.out.1.bQ
      have bM : V0.heap[w2.heap.size]? = some (.cells #[.int .i64 65536, .slice la E.length lc, .int .i64 (E.length : Int)] 54 (0, 0)) := (hk0 _ H1.out.2).trans H1.out.1.bM
      have rowL : Kd.R k68 68 V0 w.heap.size (fun k => (Value.slice la E.length lc).ownBlock = some k) (.slice la E.length lc) (docs E) := Kd.R_step H1.out.1.row (fun k _ hk => hk0 k hk)
      have hBV : Below w.heap.size w V0 := by rw [hV0]; exact below_alloc (below_alloc (H1.out.1.bel.trans (H3.out.2.2.mono H1.out.1.bel.size)) _) _
      have hL0 : ∀ k, (Value.slice la E.length lc).ownBlock = some k → w.heap.size ≤ k ∧ k < wa.heap.size := fun k hk => by
        obtain ⟨inner, ho⟩ := Kd.R_own H1.out.1.row
        exact ho.lt k hk
      obtain ⟨Q, hQ⟩ : ∃ Q : Nat → Prop, Q = fun k => k = w.heap.size ∨ k = w.heap.size + 1 ∨ k = w1.heap.size ∨ k = w2.heap.size ∨ k = w3.heap.size ∨ k = wa.heap.size ∨ k = gn ∨ (Value.slice la E.length lc).ownBlock = some k := ⟨_, rfl⟩
      have hgn3 : gn < w3.heap.size := by obtain ⟨c, t, e⟩ := hgn; exact (Array.getElem?_eq_some_iff.1 e).1
      have hQt : ∀ k, Q k → (∃ c t, V0.heap[k]? = some (.cells c t (0, 0)) ∧ ¬ QT t) ∨ (k = gn ∧ ∃ c t, V0.heap[k]? = some (.cells c t (0, 0))) := by
        rw [hQ]
        rintro k (rfl | rfl | rfl | rfl | rfl | rfl | rfl | hk)
        · exact .inl ⟨_, _, bE, by unfold QT; decide⟩
        · exact .inl ⟨_, _, bR, by unfold QT; decide⟩
        · exact .inl ⟨_, _, bQ, by unfold QT; decide⟩
        · exact .inl ⟨_, _, bM, by unfold QT; decide⟩
        · exact .inl ⟨_, _, bAll, by unfold QT; decide⟩
        · exact .inl ⟨_, _, bNow, by unfold QT; decide⟩
        · obtain ⟨c, t, e⟩ := hgn
          exact .inr ⟨rfl, c, t, (hk03 _ hgn3).trans e⟩
        · obtain ⟨c, hc⟩ := row_typed rowL k hk
          exact .inl ⟨c, _, hc, by unfold QT; decide⟩
      have hQc : ∀ k, Q k → ∃ c t fr, V0.heap[k]? = some (.cells c t fr) := fun k hk => by
        rcases hQt k hk with ⟨c, t, e, _⟩ | ⟨_, c, t, e⟩ <;> exact ⟨c, t, _, e⟩
      have hQs : ∀ k, Q k → w.heap.size ≤ k ∧ k < w3.heap.size + 1 := by
        have hx := hszm
        have hy := H1.out.2
        rw [hQ]
        rintro k (rfl | rfl | rfl | rfl | rfl | rfl | rfl | hk)
        all_goals first | omega | (have := hL0 k hk; omega)
      have q_all : Q w3.heap.size ∧ Q wa.heap.size ∧ Q gn ∧ Q w.heap.size ∧ Q (w.heap.size + 1) ∧ Q w1.heap.size ∧ Q w2.heap.size ∧ (∀ k, (Value.slice la E.length lc).ownBlock = some k → Q k) := by rw [hQ]; exact ⟨by simp, by simp, by simp, by simp, by simp, by simp, by simp, fun k hk => .inr (.inr (.inr (.inr (.inr (.inr (.inr hk))))))⟩
      have live0 : Live w.heap.size w3.heap.size Q b 65536 (fun _ => True) V0 := by
        have hlen := H1.out.1.len
        obtain ⟨q1, q2, q3, q4⟩ := HQ0.out
        have q1' : QAt w.heap.size V0 (Foot b vl mb E) b vl mb nm E 65536 came (E.length : Int) := q1.kept (S := fun _ => False) ⟨by omega, fun k hk _ => hk0 k hk⟩ (fun _ _ h => h)
        have hmb : mb < wa.heap.size := q1.lt_of mb (.inr (.inl rfl))
        refine ⟨vl, mb, nm, E, came, (E.length : Int), q1', fun k hk hq => ?_, by omega, trivial, hlen, by omega, q3, by omega⟩
        rcases hQt k hq with ⟨c, t, e, ht⟩ | ⟨rfl, _⟩
        · exact q1'.notin e (fun e2 => ht (.inl e2)) (fun e2 => ht (.inr (.inl e2))) (fun e2 => ht (.inr (.inr e2))) hk
        · have := q1.lt_of _ hk
          omega
      have HLN := Go.Lib.hid H1.out.1.len
      have HVT := Aside0.mk H1.out.1.v
      rw [← hV0]
      have HV : Aside0 (Inv w V0 w3.heap.size Q b 65536 (fun _ => True) V0) := ⟨⟨fun _ _ => rfl, live0, hBV⟩⟩
      have hsz3 : w.heap.size ≤ w3.heap.size ∧ wa.heap.size < w3.heap.size := ⟨by have := H1.out.1.bel.size; omega, by omega⟩
      have HQ := Aside0.mk (And.intro hQc q_all)
      have NQ : Aside0 (∀ k, w3.heap.size + 1 ≤ k → ¬ Q k) := ⟨fun k hk hq => by have := (hQs k hq).2; omega⟩
      have HB := Aside0.mk (And.intro (And.intro bE bR) (And.intro (And.intro bQ bM) (And.intro bAll rowL)))
      have HGL : Aside0 (0 < E.length → ∃ gl, la = some ⟨gl, 0, none⟩) := ⟨fun hj => by
        obtain ⟨inner, ho⟩ := Kd.R_own rowL
        rw [docs_len] at ho
        obtain ⟨gl, c2, e, _⟩ := own_some ho hj
        injection e with e1 e2 e3
        exact ⟨gl, e1⟩⟩
      have HCL : Aside0 (∀ gl, la = some ⟨gl, 0, none⟩ → ∀ W, Hold V0 Q W → ∀ j, j < E.length → W.cell? ⟨gl, j * 3, none⟩ = some (.int .i64 E[j]!.k) ∧ W.cell? ⟨gl, j * 3 + 2, none⟩ = some (.int .i64 E[j]!.ticket)) := ⟨fun gl e1 W hW j hj => by
        have hrow := Kd.R_move rowL (w1 := W) (fun k hk => hW k (q_all.2.2.2.2.2.2.2 k hk))
        obtain ⟨_, _, hC⟩ := Kd.R_reads' hrow
        obtain ⟨ad, ea, h0, _, h2⟩ := at_T68 hC (j : Int) (by omega) (by rw [docs_len]; omega)
        rw [e1] at ea
        injection ea with ea
        subst ea
        rw [docs_get E j hj, Int.toNat_natCast] at h0 h2
        have hadd : (⟨gl, 0, none⟩ : Addr).add (j * 3) = ⟨gl, j * 3, none⟩ := by unfold Addr.add; split <;> simp_all
        rw [hadd] at h0 h2
        exact ⟨h0, h2⟩⟩
      have HTR : Aside0 (∀ j, j < E.length → -9223372036854775808 ≤ E[j]!.ticket ∧ E[j]!.ticket ≤ 9223372036854775807) := ⟨fun j hj => by
        have hg := HQ0.out.1.good.range E[j]! (by rw [getElem!_pos E _ hj]; exact List.getElem_mem hj)
        have := H1.out.1.len
        omega⟩
      have hmatch : ∀ (pre : List (Int × Int)) (x : Int × Int), pre.length < E.length → ¬ (x.1 = E[pre.length]!.k ∧ x.2 = E[pre.length]!.ticket) → ∀ k, k ≤ E.length → pre ++ [x] ≠ pairs (E.take k) := fun pre x hlt hne k hk e => by
        have hl1 := congrArg List.length e
        unfold pairs at hl1
        rw [List.length_append, List.length_singleton, List.length_map, List.length_take, Nat.min_eq_left hk] at hl1
        obtain rfl : k = pre.length + 1 := by omega
        rw [pairs_take E pre.length hlt] at e
        obtain ⟨_, e2⟩ := List.append_inj' e rfl
        injection e2 with e2 _
        have hv := HVT.out E[pre.length]! (by rw [getElem!_pos E _ hlt]; exact List.getElem_mem hlt)
        exact hne ⟨by rw [e2], by rw [e2, ← hv]⟩
      have HMT := Aside0.mk hmatch
      clear HAC H3 heq hV0 hk03 hk0 hsA HQ0 hQ H1 live0 hBV bE bR bQ bM bAll rowL hL0 hQt hQs hgn hgr q_all hmatch
      have BN := Aside0.mk bNow
      have BRW := Aside0.mk bRow
      refine wpIn_ownH_join rfl (by omega) (gf := 45) (lb := #[.pointer (some ⟨wa.heap.size, 0, none⟩)]) rfl trivial (enters_of Try.func45 (by kernel_rfl) rfl)
        (all_stopsM 5 (by decide) wa.heap.size w.heap.size ga gn E capn cur V0 HLN.out hga hcur (by omega) (fun _ => by omega) bNow bRow) kq2_t (kq2_b (by omega)) (Below.refl _ _) (fun _ => rfl)
        (fun (pre : List (Int × Int)) (W : World) => Boxed W (w3.heap.size + 1) 3 (.int .i64 ((pre.length : Nat) : Int)) ∧ Inv w V0 w3.heap.size Q b 65536 (fun _ => True) W)
        (fun c pre W => (c = .exit 2 ∧ Inv w V0 w3.heap.size Q b 65537 (fun _ => True) W) ∨ (∀ k, k ≤ E.length → pre ≠ pairs (E.take k)))
        (OwnFrom.and (Own.from (boxed_own (w3.heap.size + 1) 3 (fun (pre : List (Int × Int)) => .int .i64 ((pre.length : Nat) : Int))) _) (inv_own hQc (by omega) (by omega)))
        (fun c s X Y row hs hg hr => hs.elim (fun h => .inl ⟨h.1, inv_own (β := Unit) hQc (by omega) (by omega) () X Y row h.2 hg hr⟩) .inr)
        ⟨bCnt, HV.out⟩
        (fun x a' _ => a' = { tmps := #[.slice A keys.length c, .int .i64 leave, undef, .pointer (some ⟨w.heap.size, 0, none⟩), .pointer (some ⟨w.heap.size + 1, 0, none⟩), .pointer (some ⟨w1.heap.size, 0, none⟩), .int .i64 0, .pointer (some ⟨w2.heap.size, 0, none⟩), u8, u9, u10, u11, u12, u13, .pointer (some ⟨w3.heap.size, 0, none⟩), .pointer (some ⟨w3.heap.size + 1, 0, none⟩), .int .i64 x.1, .int .i64 x.2, undef, undef, undef, undef, undef, undef, .tuple #[.pointer (some ⟨b, 0, none⟩), .int .i64 0], .tuple #[.pointer (some ⟨b, 0, none⟩), .int .i64 0], .pointer (some ⟨b, 0, none⟩), .int .i64 0, .bool true, .bool false, .bool false, .int .i64 0, .bool false, .bool false, .bool false, .pointer (some ⟨b, 0, none⟩), .bool false, .bool false, .agg #[.int .i64 65536, .slice none 0 0, .int .i64 0], .slice A keys.length c, .int .i64 (keys.length : Int), .int .i64 (i : Int), .bool false, u43, u44, u45, u46, u47, u48, u49, u50, u51, u52, u53, u54, u55, u56, u57, u58, u59, u60, u61, u62, u63, u64, u65, u66, u67, u68, u69, u70, u71, u72, .pointer (some ⟨b, 0, none⟩), .func (.func 45) #[] #[.pointer (some ⟨wa.heap.size, 0, none⟩)], .func (.func 45) #[] #[.pointer (some ⟨wa.heap.size, 0, none⟩)], .bool false, .func (.func 45) #[] #[.pointer (some ⟨wa.heap.size, 0, none⟩)], .int .i64 x.1, .int .i64 x.2, undef, undef, undef, undef, undef, undef, undef, undef, undef, undef, undef, undef, undef, undef, undef, undef, undef, undef, undef, undef, undef, undef, undef, undef, undef, undef, undef, undef, undef, undef, undef, undef, undef, undef, undef, undef, undef, undef, undef, undef, undef, undef, undef, undef, undef, undef, undef, undef, undef, undef, undef, undef, undef, undef, undef, undef, undef, undef, undef, undef, undef, undef, undef, undef, undef, undef, undef, undef, undef, undef, undef, undef, undef, undef, undef, undef, undef, undef, undef, undef, undef, undef, undef, undef, undef, undef, undef, undef, undef, undef, undef, undef, undef], defers := [] }) (fun _ _ _ _ _ _ hs _ _ => hs)
        (fun W => Inv w V0 w3.heap.size Q b 65537 (fun _ => True) W) ?assign ?body ?hd ?hst ?after
      case assign =>
        intro l pre x W K hi2 hK
        gi_wp2
        exact hK _ _ (KeepsFrom.refl _ _) ⟨Below.refl _ _, fun _ _ _ _ h => h⟩ hi2 rfl
      case hd =>
        rintro xs W _ ⟨_, h⟩
        exact h.widen
      case hst =>
        rintro c0 pre W ⟨k, hk, e⟩ (h | h)
        · exact h
        · exact absurd e (h k hk)
      case body =>
        rintro l pre x a' W hl2 ⟨r, hr⟩ ⟨hb, hiv⟩ rfl hlt
        have hsB := NQ.out (w3.heap.size + 1) (Nat.le_refl _)
        obtain ⟨gl, rfl⟩ := HGL.out (by omega)
        have hcM := cells_at (hiv.get HQ.out.2.2.2.2.2.2.2.1 HB.out.2.1.2) 1 _ rfl
        obtain ⟨q0, q1⟩ := HCL.out gl rfl W hiv.1 pre.length hlt
        obtain ⟨k0, ek0⟩ : ∃ k0, k0 = E[pre.length]!.k := ⟨_, rfl⟩
        obtain ⟨t0, et0⟩ : ∃ t0, t0 = E[pre.length]!.ticket := ⟨_, rfl⟩
        rw [← ek0] at q0
        rw [← et0] at q1
        have hc1 := hb.cell
        have hf1 := hb.frozen
        have hcE := (hiv.box HQ.out.2.2.2.2.1 HB.out.1.1).cell
        have hcR := (hiv.box HQ.out.2.2.2.2.2.1 HB.out.1.2).cell
        have hfR := (hiv.box HQ.out.2.2.2.2.2.1 HB.out.1.2).frozen
        have hcQ := (hiv.box HQ.out.2.2.2.2.2.2.1 HB.out.2.1.1).cell
        have z1 : decide ((E.length : Int) ≤ (pre.length : Int)) = false := decide_eq_false (by omega)
        have z9 : decide (E.length ≤ pre.length) = false := decide_eq_false (by omega)
        have z3 : 0 ≤ (pre.length : Int) := by omega
        have z4 : (pre.length : Int) < (E.length : Int) := by omega
        have z5 : wrap64 ((pre.length : Int) + 1) = (pre.length : Int) + 1 := by have := HLN.out; unfold wrap64; omega
        have HI := Aside0.mk (And.intro hb hiv)
        have HKT := Aside0.mk (And.intro ek0 et0)
        have HLT := Go.Lib.hid (And.intro hlt (And.intro hl2 (And.intro hsz3 (And.intro hszm (And.intro hsV (And.intro hgn2 (And.intro hgn3 hlt3)))))))
        clear hb hiv ek0 et0 hlt hl2 hsz3 hszm hsV hgn2 hgn3 hlt3 bNow bRow bCnt
        by_cases c1 : x.1 = k0
        · have z6 : (x.1 != k0) = false := by rw [c1]; simp
          by_cases c2 : x.2 = t0
          · have z7 : (x.2 != t0) = false := by rw [c2]; simp
            have HC := Aside0.mk (And.intro c1 c2)
            clear c1 c2
            by_cases c3 : (pre.length : Int) = leave
            · have z8 : ((pre.length : Int) == leave) = true := beq_iff_eq.2 c3
              have HCH := Aside0.mk (live_change HI.out.2.2.1 (HI.out.2.ql HQ.out.1) x.2 (by rw [HC.out.2, HKT.out.2]; exact HTR.out _ HLT.out.1) 0)
              clear c3
              gi_wp2_with (refine ⟨trivial, ?_⟩; gi_at_call 29; refine (CallsIn.inRound l (callsIn_wide.2 HCH.out)).mono ?_; rintro e w5 ⟨r5, rfl, hL5, hK5, hB5⟩; have M5 := Aside0.mk (And.intro hL5 (And.intro hK5 hB5)); clear hL5 hK5 hB5)
              refine ⟨M5.out.2.1.from_ (by have := HLT.out.2.2.2.2.1; omega), .inl ⟨rfl, HI.out.2.call M5.out.1 M5.out.2.1 M5.out.2.2 HQ.out.1⟩⟩
            · have z8 : ((pre.length : Int) == leave) = false := beq_eq_false_iff_ne.2 c3
              clear c3
              have hbA3 := HI.out.2.box HQ.out.2.1 HB.out.2.2.1
              have hcA3 : ∀ o, (W.alloc o).cell? ⟨w3.heap.size, 0, none⟩ = some (.func (.func 45) #[] #[.pointer (some ⟨wa.heap.size, 0, none⟩)]) := fun o => (hbA3.alloc o).cell
              clear hbA3
              gi_wp2
              obtain ⟨V2, hV2⟩ : ∃ V2, V2 = W.alloc (.cells #[.int .i64 0] 3) := ⟨_, rfl⟩
              have hsV2 : V2.heap.size = W.heap.size + 1 := by rw [hV2, World.size_alloc]
              have hlW : l < W.heap.size := (Array.getElem?_eq_some_iff.1 hr).1
              have hr4 : V2.heap[l]? = some (.loop r) := by rw [hV2]; exact (hao W _ hlW).trans hr
              have iv2 : Inv w V0 w3.heap.size Q b 65536 (fun _ => True) V2 := by rw [hV2]; exact HI.out.2.below (below_alloc (Below.refl _ W) _) HQ.out.1
              have bI : Boxed V2 W.heap.size 3 (.int .i64 ((([] : List (Int × Int)).length : Nat) : Int)) := by rw [hV2]; exact Boxed.new W _ _
              have bS : Boxed V2 (w3.heap.size + 1) 3 (.int .i64 ((pre.length : Nat) : Int)) := by rw [hV2]; exact HI.out.1.alloc _
              have hkf2 : KeepsFrom V0.heap.size W V2 := by rw [hV2]; exact (KeepsOthers.alloc W _).from _
              have hbw2 : Below w.heap.size W V2 := by rw [hV2]; exact (Below.refl _ W).alloc HI.out.2.2.2.size _
              have hnow2 := iv2.box HQ.out.2.2.1 BN.out
              have hrow2 := fun h => (iv2.1 gn HQ.out.2.2.2.1).trans (BRW.out h)
              have hgW : wa.heap.size < V2.heap.size ∧ gn < V2.heap.size ∧ w.heap.size ≤ V2.heap.size := by have h1 := HLT.out; have h2 := HI.out.2.2.2.size; omega
              have hsI := NQ.out W.heap.size (by have := HLT.out; omega)
              have HV2 := Aside0.mk (And.intro hbw2 (And.intro hkf2 (And.intro hgW (And.intro hsV2 hlW))))
              rw [← hV2]
              clear hV2 hcA3 hkf2 hbw2
              refine wpIn_ownN_join (l₀ := l) (r₀ := r) rfl hr4 (by decide) (gf := 45) (lb := #[.pointer (some ⟨wa.heap.size, 0, none⟩)]) rfl trivial (enters_of Try.func45 (by kernel_rfl) rfl)
                ((all_stopsM 3 (by decide) wa.heap.size w.heap.size ga gn E capn cur V2 HLN.out hga hcur hgW.1 (fun _ => hgW.2.1) hnow2 hrow2).inRound l) kq2_t (kq2_b hgW.2.2) (Below.refl _ _) (fun _ => rfl)
                (fun (pre3 : List (Int × Int)) (W3 : World) => (Boxed W3 W.heap.size 3 (.int .i64 ((pre3.length : Nat) : Int)) ∧ Boxed W3 (w3.heap.size + 1) 3 (.int .i64 ((pre.length : Nat) : Int))) ∧ (Inv w V0 w3.heap.size Q b 65536 (fun _ => True) W3 ∧ (Below w.heap.size W W3 ∧ KeepsFrom V0.heap.size W W3)))
                (fun c3 _ W3 => c3 = .exit 4 ∧ (Boxed W3 (w3.heap.size + 1) 3 (.int .i64 ((pre.length : Nat) : Int)) ∧ (Inv w V0 w3.heap.size Q b 65536 (fun _ => True) W3 ∧ (Below w.heap.size W W3 ∧ KeepsFrom V0.heap.size W W3))))
                (OwnFrom.and (OwnFrom.and (Own.from (boxed_own W.heap.size 3 (fun (pre3 : List (Int × Int)) => .int .i64 ((pre3.length : Nat) : Int))) _) (Own.from (boxed_own (w3.heap.size + 1) 3 (fun _ => .int .i64 ((pre.length : Nat) : Int))) _)) (OwnFrom.and (inv_own hQc (by have := HLT.out; omega) hgW.2.2) (OwnFrom.and (ownFrom_below HI.out.2.2.2.size (by omega)) (ownFrom_keepsFrom (by omega)))))
                (fun c3 => OwnFrom.and (ownFrom_pure _ (fun _ => c3 = .exit 4)) (OwnFrom.and (Own.from (boxed_own (w3.heap.size + 1) 3 (fun _ => .int .i64 ((pre.length : Nat) : Int))) _) (OwnFrom.and (inv_own hQc (by have := HLT.out; omega) hgW.2.2) (OwnFrom.and (ownFrom_below HI.out.2.2.2.size (by omega)) (ownFrom_keepsFrom (by omega))))))
                ⟨⟨bI, bS⟩, iv2, HV2.out.1, HV2.out.2.1⟩
                (fun y a'' _ => a'' = { tmps := #[.slice A keys.length c, .int .i64 leave, undef, .pointer (some ⟨w.heap.size, 0, none⟩), .pointer (some ⟨w.heap.size + 1, 0, none⟩), .pointer (some ⟨w1.heap.size, 0, none⟩), .int .i64 0, .pointer (some ⟨w2.heap.size, 0, none⟩), u8, u9, u10, u11, u12, u13, .pointer (some ⟨w3.heap.size, 0, none⟩), .pointer (some ⟨w3.heap.size + 1, 0, none⟩), .int .i64 x.fst, .int .i64 x.snd, .pointer (some ⟨W.heap.size, 0, none⟩), undef, .int .i64 y.2, undef, undef, undef, .tuple #[.pointer (some ⟨b, 0, none⟩), .int .i64 0], .tuple #[.pointer (some ⟨b, 0, none⟩), .int .i64 0], .pointer (some ⟨b, 0, none⟩), .int .i64 0, .bool true, .bool false, .bool false, .int .i64 0, .bool false, .bool false, .bool false, .pointer (some ⟨b, 0, none⟩), .bool false, .bool false, .agg #[.int .i64 65536, .slice none 0 0, .int .i64 0], .slice A keys.length c, .int .i64 (keys.length : Int), .int .i64 (i : Int), .bool false, u43, u44, u45, u46, u47, u48, u49, u50, u51, u52, u53, u54, u55, u56, u57, u58, u59, u60, u61, u62, u63, u64, u65, u66, u67, u68, u69, u70, u71, u72, .pointer (some ⟨b, 0, none⟩), .func (.func 45) #[] #[.pointer (some ⟨wa.heap.size, 0, none⟩)], .func (.func 45) #[] #[.pointer (some ⟨wa.heap.size, 0, none⟩)], .bool false, .func (.func 45) #[] #[.pointer (some ⟨wa.heap.size, 0, none⟩)], .int .i64 x.fst, .int .i64 x.snd, .int .i64 (pre.length : Int), .pointer (some ⟨w2.heap.size, 1, none⟩), .slice (some ⟨gl, 0, none⟩) E.length lc, .int .i64 (E.length : Int), .bool false, .bool false, .int .i64 x.fst, .pointer (some ⟨w2.heap.size, 1, none⟩), .slice (some ⟨gl, 0, none⟩) E.length lc, .int .i64 (pre.length : Int), .pointer (some ⟨gl, pre.length * 3, none⟩), .pointer (some ⟨gl, pre.length * 3, none⟩), .int .i64 k0, .bool false, .bool false, .bool false, .int .i64 x.snd, .pointer (some ⟨w2.heap.size, 1, none⟩), .slice (some ⟨gl, 0, none⟩) E.length lc, .int .i64 (pre.length : Int), .pointer (some ⟨gl, pre.length * 3, none⟩), .pointer (some ⟨gl, pre.length * 3 + 2, none⟩), .int .i64 t0, .bool false, .bool false, .int .i64 (pre.length : Int), .int .i64 leave, .bool false, undef, undef, undef, .func (.func 45) #[] #[.pointer (some ⟨wa.heap.size, 0, none⟩)], .int .i64 y.1, .int .i64 y.2, undef, undef, undef, undef, undef, undef, undef, undef, undef, undef, undef, undef, undef, undef, undef, undef, undef, undef, undef, undef, undef, undef, undef, undef, undef, undef, undef, undef, undef, undef, undef, undef, undef, undef, undef, undef, undef, undef, undef, undef, undef, undef, undef, undef, undef, undef, undef, undef, undef, undef, undef, undef, undef, undef, undef, undef, undef, undef, undef], defers := [] }) (fun _ _ _ _ _ _ hs _ _ => hs)
                (fun W3 => Boxed W3 (w3.heap.size + 1) 3 (.int .i64 ((pre.length : Nat) : Int)) ∧ (Inv w V0 w3.heap.size Q b 65536 (fun _ => True) W3 ∧ (Below w.heap.size W W3 ∧ KeepsFrom V0.heap.size W W3))) ?assign3 ?body3 ?hd3 ?hst3 ?after3
              case assign3 =>
                intro l3 pre3 y W3 K hi3 hK
                gi_wp2
                exact hK _ _ (KeepsFrom.refl _ _) ⟨Below.refl _ _, fun _ _ _ _ h => h⟩ hi3 rfl
              case hd3 =>
                rintro xs W3 _ ⟨⟨_, h1⟩, h2⟩
                exact ⟨h1, h2⟩
              case hst3 => exact fun c3 pre3 W3 _ h => h
              case body3 =>
                rintro l3 pre3 y a'' W3 hl3 _ ⟨⟨hb1, hb2⟩, hiv3, hbw3, hkf3⟩ rfl hlt3b
                have hcM3 := cells_at (hiv3.get HQ.out.2.2.2.2.2.2.2.1 HB.out.2.1.2) 1 _ rfl
                have hq1 := (HCL.out gl rfl W3 hiv3.1 pre3.length hlt3b).2
                obtain ⟨t3, et3⟩ : ∃ t3, t3 = E[pre3.length]!.ticket := ⟨_, rfl⟩
                rw [← et3] at hq1
                have hcI := hb1.cell
                have hfI := hb1.frozen
                have hcE3 := (hiv3.box HQ.out.2.2.2.2.1 HB.out.1.1).cell
                have y1 : decide ((E.length : Int) ≤ (pre3.length : Int)) = false := decide_eq_false (by omega)
                have y9 : decide (E.length ≤ pre3.length) = false := decide_eq_false (by omega)
                have y3 : 0 ≤ (pre3.length : Int) := by omega
                have y4 : (pre3.length : Int) < (E.length : Int) := by omega
                have y5 : wrap64 ((pre3.length : Int) + 1) = (pre3.length : Int) + 1 := by have := HLN.out; unfold wrap64; omega
                have M0 := Aside0.mk (And.intro (And.intro hb1 hb2) (And.intro hiv3 (And.intro hbw3 hkf3)))
                clear hb1 hb2 hiv3 hbw3 hkf3 et3 hl3 hlt3b z1 z3 z4 z5 z6 z7 z8 z9 hcM q0 q1 hc1 hf1 hcE hcR hfR hcQ hgW hsV2 hlW
                by_cases d1 : y.2 = t3
                · have y6 : (y.2 != t3) = false := by rw [d1]; simp
                  clear d1
                  by_cases d2 : leave < (pre3.length : Int)
                  · have y7 : decide (leave < (pre3.length : Int)) = true := decide_eq_true d2
                    clear d2
                    gi_wp2
                    exact ⟨KeepsFrom.refl _ _, rfl, M0.out.1.2, M0.out.2⟩
                  · have y7 : decide (leave < (pre3.length : Int)) = false := decide_eq_false d2
                    clear d2
                    gi_wp2
                    have hwW := HI.out.2.2.2.size
                    have hlt9 := HLT.out
                    have hlW9 := HV2.out.2.2.2.2
                    have ez : (((pre3 ++ [y]).length : Nat) : Int) = (pre3.length : Int) + 1 := by rw [List.length_append, List.length_singleton]; omega
                    have hi6 := M0.out.2.1.put (show W3.heap[W.heap.size]? = _ from M0.out.1.1) (by unfold QT; decide) hsI hwW (.int .i64 ((pre3.length : Int) + 1))
                    have hko6 : KeepsOthers W3 (W3.setCell ⟨W.heap.size, 0, none⟩ (.int .i64 ((pre3.length : Int) + 1))) := KeepsOthers.setCell _ _ _
                    have hb6 : Below w.heap.size W3 (W3.setCell ⟨W.heap.size, 0, none⟩ (.int .i64 ((pre3.length : Int) + 1))) := (Below.refl w.heap.size W3).setCell (p := ⟨W.heap.size, 0, none⟩) hwW _
                    exact ⟨hko6.from _, M0.out.2.1.kq hi6 hb6 HQ.out.2.2.1 HQ.out.2.2.2.1, ⟨by rw [ez]; exact Boxed.set _ M0.out.1.1, M0.out.1.2.other (by omega) _⟩, hi6, M0.out.2.2.1.trans hb6, M0.out.2.2.2.trans (hko6.from _)⟩
                · have y6 : (y.2 != t3) = true := bne_iff_ne.2 d1
                  clear d1
                  gi_wp2
                  exact ⟨KeepsFrom.refl _ _, rfl, M0.out.1.2, M0.out.2⟩
              case after3 =>
                rintro W3 ⟨hb2, hiv3, hbw3, hkf3⟩
                have hcQ3 := (hiv3.box HQ.out.2.2.2.2.2.2.1 HB.out.2.1.1).cell
                have HRM := Aside0.mk (live_remove hiv3.2.1 (hiv3.ql HQ.out.1) x.2 (by rw [HC.out.2, HKT.out.2]; exact HTR.out _ HLT.out.1))
                have M0 := Aside0.mk (And.intro hb2 (And.intro hiv3 (And.intro hbw3 hkf3)))
                clear hb2 hiv3 hbw3 hkf3 z1 z3 z4 z6 z7 z8 z9 hcM q0 q1 hc1 hf1 hcE hcR hfR hcQ hgW hsV2 hlW
                gi_wp2_with (refine ⟨trivial, ?_⟩; gi_at_call 30; refine (CallsIn.inRound l (callsIn_wide.2 HRM.out)).mono ?_; rintro e w5 ⟨x5, r5, rfl, hL5, hK5, hB5⟩; have hbS5 : Boxed w5 (w3.heap.size + 1) 3 (.int .i64 ((pre.length : Nat) : Int)) := hK5.box M0.out.1 (by unfold QT; decide); have hcS5 := hbS5.cell; have hfS5 := hbS5.frozen; have M5 := Aside0.mk (And.intro hL5 (And.intro hK5 (And.intro hB5 hbS5))); clear hL5 hK5 hB5 hbS5)
                have hlt9 := HLT.out
                have ez : (((pre ++ [x]).length : Nat) : Int) = (pre.length : Int) + 1 := by rw [List.length_append, List.length_singleton]; omega
                have hi5 := M0.out.2.1.call M5.out.1 M5.out.2.1 M5.out.2.2.1 HQ.out.1
                have hi6 := hi5.put (show w5.heap[w3.heap.size + 1]? = _ from M5.out.2.2.2) (by unfold QT; decide) hsB (by omega) (.int .i64 ((pre.length : Int) + 1))
                have hko6 : KeepsOthers w5 (w5.setCell ⟨w3.heap.size + 1, 0, none⟩ (.int .i64 ((pre.length : Int) + 1))) := KeepsOthers.setCell _ _ _
                have hb6 : Below w.heap.size W (w5.setCell ⟨w3.heap.size + 1, 0, none⟩ (.int .i64 ((pre.length : Int) + 1))) := (M0.out.2.2.1.trans M5.out.2.2.1).setCell (p := ⟨w3.heap.size + 1, 0, none⟩) (show w.heap.size ≤ w3.heap.size + 1 by omega) _
                refine ⟨(M0.out.2.2.2.trans (M5.out.2.1.from_ (by omega))).trans (hko6.from _), HI.out.2.kq hi6 hb6 HQ.out.2.2.1 HQ.out.2.2.2.1, by rw [ez]; exact Boxed.set _ M5.out.2.2.2, hi6⟩
          · have z7 : (x.2 != t0) = true := bne_iff_ne.2 c2
            have HN : Aside0 (∀ k, k ≤ E.length → pre ++ [x] ≠ pairs (E.take k)) := ⟨HMT.out pre x HLT.out.1 (fun h => c2 (h.2.trans HKT.out.2.symm))⟩
            clear c1 c2
            gi_wp2
            exact ⟨(KeepsOthers.setCell _ _ _).from _, .inr HN.out⟩
        · have z6 : (x.1 != k0) = true := bne_iff_ne.2 c1
          have HN : Aside0 (∀ k, k ≤ E.length → pre ++ [x] ≠ pairs (E.take k)) := ⟨HMT.out pre x HLT.out.1 (fun h => c1 (h.1.trans HKT.out.1.symm))⟩
          clear c1
          gi_wp2
          exact ⟨(KeepsOthers.setCell _ _ _).from _, .inr HN.out⟩
      case after =>
        intro D W hD hiv hK
        have hcQ := (hiv.box HQ.out.2.2.2.2.2.2.1 HB.out.2.1.1).cell
        have HCR := Aside0.mk (live_clear hiv.2.1 (hiv.ql HQ.out.1))
        have HI := Aside0.mk (And.intro hiv (And.intro hK hD))
        have HLT := Go.Lib.hid (And.intro hsz3 (And.intro hszm (And.intro hsV (And.intro hgn2 (And.intro hgn3 hlt3)))))
        clear hiv hK hD hsz3 hszm hsV hgn2 hgn3 hlt3 bNow bRow bCnt
        gi_wp2_with (refine ⟨trivial, ?_⟩; gi_at_call 27; refine (callsIn_wide.2 HCR.out).mono ?_; rintro e w5 ⟨rfl, hL5, hK5, hB5⟩; have hi5 := HI.out.1.call hL5 hK5 hB5 HQ.out.1; have hD5 := hK5.obj HI.out.2.1 rfl (by have h1 := HI.out.2.2; have h2 := HLT.out; omega); have hcA5 : ∀ o, (w5.alloc o).cell? ⟨w3.heap.size, 0, none⟩ = some (.func (.func 45) #[] #[.pointer (some ⟨wa.heap.size, 0, none⟩)]) := (fun o => ((hi5.box HQ.out.2.1 HB.out.2.2.1).alloc o).cell); have M5 := Aside0.mk (And.intro hi5 hD5); clear hL5 hK5 hB5 hi5 hD5)
        obtain ⟨V5, hV5⟩ : ∃ V5, V5 = w5.alloc (.cells #[.int .i64 0] 3) := ⟨_, rfl⟩
        have hsV5 : V5.heap.size = w5.heap.size + 1 := by rw [hV5, World.size_alloc]
        have hD5 : D < w5.heap.size := (Array.getElem?_eq_some_iff.1 M5.out.2).1
        have iv5 : Inv w V0 w3.heap.size Q b 65537 (fun E => E = []) V5 := by rw [hV5]; exact M5.out.1.below (below_alloc (Below.refl _ w5) _) HQ.out.1
        have hKD5 : V5.heap[D]? = some (.deferred (some [])) := by rw [hV5]; exact (hao w5 _ hD5).trans M5.out.2
        have bI : Boxed V5 w5.heap.size 3 (.int .i64 ((([] : List (Int × Int)).length : Nat) : Int)) := by rw [hV5]; exact Boxed.new w5 _ _
        have hnow2 := iv5.box HQ.out.2.2.1 BN.out
        have hrow2 := fun h => (iv5.1 gn HQ.out.2.2.2.1).trans (BRW.out h)
        have hgW : wa.heap.size < V5.heap.size ∧ gn < V5.heap.size ∧ w.heap.size ≤ V5.heap.size ∧ w3.heap.size ≤ V5.heap.size := by have h1 := HLT.out; have h2 := HI.out.2.2; omega
        have hsI := NQ.out w5.heap.size (by have h1 := HLT.out; have h2 := HI.out.2.2; omega)
        have HV5 := Aside0.mk (And.intro hgW (And.intro hsV5 hD5))
        rw [← hV5]
        clear hV5 hcA5
        refine wpIn_ownH_join rfl (by omega) (gf := 45) (lb := #[.pointer (some ⟨wa.heap.size, 0, none⟩)]) rfl trivial (enters_of Try.func45 (by kernel_rfl) rfl)
          (all_stopsM 5 (by decide) wa.heap.size w.heap.size ga gn E capn cur V5 HLN.out hga hcur hgW.1 (fun _ => hgW.2.1) hnow2 hrow2) kq2_t (kq2_b hgW.2.2.1) (Below.refl _ _) (fun _ => rfl)
          (fun (pre : List (Int × Int)) (W : World) => Boxed W w5.heap.size 3 (.int .i64 ((pre.length : Nat) : Int)) ∧ (Inv w V0 w3.heap.size Q b 65537 (fun E => E = []) W ∧ W.heap[D]? = some (.deferred (some []))))
          (fun c pre W => ∀ k, k ≤ E.length → pre ≠ pairs (E.take k))
          (OwnFrom.and (Own.from (boxed_own w5.heap.size 3 (fun (pre : List (Int × Int)) => .int .i64 ((pre.length : Nat) : Int))) _) (OwnFrom.and (inv_own hQc hgW.2.2.2 hgW.2.2.1) (fun _ _ _ _ hs hg hr => (hg.block D (Array.getElem?_eq_some_iff.1 hs).1 (fun e => by have := (hr D e.symm).1; omega)).trans hs)))
          (fun c _ _ _ _ hs _ _ => hs)
          ⟨bI, iv5, hKD5⟩
          (fun y a' _ => a' = { tmps := #[.slice A keys.length c, .int .i64 leave, undef, .pointer (some ⟨w.heap.size, 0, none⟩), .pointer (some ⟨w.heap.size + 1, 0, none⟩), .pointer (some ⟨w1.heap.size, 0, none⟩), .int .i64 0, .pointer (some ⟨w2.heap.size, 0, none⟩), u8, u9, u10, u11, u12, u13, .pointer (some ⟨w3.heap.size, 0, none⟩), .pointer (some ⟨w3.heap.size + 1, 0, none⟩), undef, undef, undef, undef, undef, .pointer (some ⟨w5.heap.size, 0, none⟩), undef, .int .i64 y.2, .tuple #[.pointer (some ⟨b, 0, none⟩), .int .i64 0], .tuple #[.pointer (some ⟨b, 0, none⟩), .int .i64 0], .pointer (some ⟨b, 0, none⟩), .int .i64 0, .bool true, .bool false, .bool false, .int .i64 0, .bool false, .bool false, .bool false, .pointer (some ⟨b, 0, none⟩), .bool false, .bool false, .agg #[.int .i64 65536, .slice none 0 0, .int .i64 0], .slice A keys.length c, .int .i64 (keys.length : Int), .int .i64 (i : Int), .bool false, u43, u44, u45, u46, u47, u48, u49, u50, u51, u52, u53, u54, u55, u56, u57, u58, u59, u60, u61, u62, u63, u64, u65, u66, u67, u68, u69, u70, u71, u72, .pointer (some ⟨b, 0, none⟩), .func (.func 45) #[] #[.pointer (some ⟨wa.heap.size, 0, none⟩)], .func (.func 45) #[] #[.pointer (some ⟨wa.heap.size, 0, none⟩)], .bool false, .func (.func 45) #[] #[.pointer (some ⟨wa.heap.size, 0, none⟩)], undef, undef, undef, undef, undef, undef, undef, undef, undef, undef, undef, undef, undef, undef, undef, undef, undef, undef, undef, undef, undef, undef, undef, undef, undef, undef, undef, undef, undef, undef, undef, undef, undef, undef, undef, undef, undef, undef, undef, undef, undef, undef, undef, undef, undef, undef, undef, undef, undef, undef, undef, undef, undef, undef, undef, undef, undef, undef, undef, undef, undef, undef, undef, .pointer (some ⟨b, 0, none⟩), .tuple #[], .func (.func 45) #[] #[.pointer (some ⟨wa.heap.size, 0, none⟩)], .int .i64 y.1, .int .i64 y.2, undef, undef, undef, undef, undef, undef, undef, undef, undef, undef, undef, undef, undef, undef, undef, undef, undef, undef, undef, undef, undef, undef, undef, undef, undef, undef, undef], defers := [] }) (fun _ _ _ _ _ _ hs _ _ => hs)
          (fun W => Boxed W w5.heap.size 3 (.int .i64 (E.length : Int)) ∧ (Inv w V0 w3.heap.size Q b 65537 (fun E => E = []) W ∧ W.heap[D]? = some (.deferred (some [])))) ?assign4 ?body4 ?hd4 ?hst4 ?after4
        case assign4 =>
          intro l pre x W K hi2 hK
          gi_wp2
          exact hK _ _ (KeepsFrom.refl _ _) ⟨Below.refl _ _, fun _ _ _ _ h => h⟩ hi2 rfl
        case hd4 =>
          rintro xs W rfl ⟨h1, h⟩
          unfold pairs at h1
          rw [List.length_map] at h1
          exact ⟨h1, h⟩
        case hst4 =>
          rintro c0 pre W ⟨k, hk, e⟩ h
          exact absurd e (h k hk)
        case body4 =>
          rintro l pre y a' W hl2 ⟨r, hr⟩ ⟨hb, hiv, hKD⟩ rfl hlt
          obtain ⟨gl, rfl⟩ := HGL.out (by omega)
          have hcM := cells_at (hiv.get HQ.out.2.2.2.2.2.2.2.1 HB.out.2.1.2) 1 _ rfl
          obtain ⟨_, q1⟩ := HCL.out gl rfl W hiv.1 pre.length hlt
          obtain ⟨t0, et0⟩ : ∃ t0, t0 = E[pre.length]!.ticket := ⟨_, rfl⟩
          rw [← et0] at q1
          have hc1 := hb.cell
          have hf1 := hb.frozen
          have hcR := (hiv.box HQ.out.2.2.2.2.2.1 HB.out.1.2).cell
          have hfR := (hiv.box HQ.out.2.2.2.2.2.1 HB.out.1.2).frozen
          have z1 : decide ((E.length : Int) ≤ (pre.length : Int)) = false := decide_eq_false (by omega)
          have z9 : decide (E.length ≤ pre.length) = false := decide_eq_false (by omega)
          have z3 : 0 ≤ (pre.length : Int) := by omega
          have z4 : (pre.length : Int) < (E.length : Int) := by omega
          have z5 : wrap64 ((pre.length : Int) + 1) = (pre.length : Int) + 1 := by have := HLN.out; unfold wrap64; omega
          have M0 := Aside0.mk (And.intro hb (And.intro hiv hKD))
          have HLT2 := Go.Lib.hid hlt
          have ET0 := Aside0.mk et0
          clear hb hiv hKD et0 hlt hl2 hgW hsV5 hD5
          by_cases c2 : y.2 = t0
          · have z7 : (y.2 != t0) = false := by rw [c2]; simp
            clear c2
            gi_wp2
            have hw5 : w.heap.size ≤ w5.heap.size := M5.out.1.2.2.size
            have ez : (((pre ++ [y]).length : Nat) : Int) = (pre.length : Int) + 1 := by rw [List.length_append, List.length_singleton]; omega
            have hi6 := M0.out.2.1.put (show W.heap[w5.heap.size]? = _ from M0.out.1) (by unfold QT; decide) hsI hw5 (.int .i64 ((pre.length : Int) + 1))
            have hko6 : KeepsOthers W (W.setCell ⟨w5.heap.size, 0, none⟩ (.int .i64 ((pre.length : Int) + 1))) := KeepsOthers.setCell _ _ _
            have hb6 : Below w.heap.size W (W.setCell ⟨w5.heap.size, 0, none⟩ (.int .i64 ((pre.length : Int) + 1))) := (Below.refl w.heap.size W).setCell (p := ⟨w5.heap.size, 0, none⟩) hw5 _
            exact ⟨hko6.from _, M0.out.2.1.kq hi6 hb6 HQ.out.2.2.1 HQ.out.2.2.2.1, by rw [ez]; exact Boxed.set _ M0.out.1, hi6, hko6.same D _ M0.out.2.2 rfl⟩
          · have z7 : (y.2 != t0) = true := bne_iff_ne.2 c2
            have HN : Aside0 (∀ k, k ≤ E.length → pre ++ [y] ≠ pairs (E.take k)) := ⟨HMT.out pre y HLT2.out (fun h => c2 (h.2.trans ET0.out.symm))⟩
            clear c2
            gi_wp2
            exact ⟨(KeepsOthers.setCell _ _ _).from _, HN.out⟩
        case after4 =>
          rintro D2 W6 hD2 ⟨hb6, hiv6, hKD6⟩ hK6
          have hcM := cells_at (hiv6.get HQ.out.2.2.2.2.2.2.2.1 HB.out.2.1.2) 1 _ rfl
          have hcI := hb6.cell
          have hcQ6 := (hiv6.box HQ.out.2.2.2.2.2.2.1 HB.out.2.1.1).cell
          have hcR := (hiv6.box HQ.out.2.2.2.2.2.1 HB.out.1.2).cell
          have hfR := (hiv6.box HQ.out.2.2.2.2.2.1 HB.out.1.2).frozen
          have HLE := Aside0.mk (live_len hiv6.2.1)
          have M6 := Aside0.mk (And.intro hiv6 (And.intro hKD6 (And.intro hK6 hD2)))
          have zz : ((E.length : Int) == (E.length : Int)) = true := beq_self_eq_true _
          clear hb6 hiv6 hKD6 hK6 hD2 hgW hsV5 hD5
          gi_wp2_with (refine ⟨trivial, ?_⟩; gi_at_call 31; refine (callsIn_wide.2 HLE.out).mono ?_; rintro e w7 ⟨rfl, h7⟩; have h8 := h7.symm; subst h8)
          have hlo1 : w.heap.size ≤ D := by have h1 := HI.out.2.2; have h2 := HLT.out; omega
          have hlo2 : w.heap.size ≤ D2 := by have h1 := M6.out.2.2.2; have h2 := HV5.out.1.2.2.1; omega
          have hDD : D ≠ D2 := by have h1 := M6.out.2.2.2; have h2 := HV5.out.2; omega
          have hKb' : (W6.setCell ⟨w.heap.size + 1, 0, none⟩ (.bool true)).heap[D2]? = some (.deferred (some [])) := (KeepsOthers.setCell _ _ _).same D2 _ M6.out.2.2.1 rfl
          have hKa' : ((W6.setCell ⟨w.heap.size + 1, 0, none⟩ (.bool true)).putObj D2 (.deferred none)).heap[D]? = some (.deferred (some [])) := (World.putObj_heap_other hDD).trans ((KeepsOthers.setCell _ _ _).same D _ M6.out.2.1 rfl)
          refine ⟨by simp, .inl ⟨_, _, rfl, run_takeDeferred hKb', ?_⟩⟩
          refine ⟨by simp, .inl ⟨_, _, rfl, run_takeDeferred hKa', ?_⟩⟩
          have hc4 := cell_kept (World.cell?_setCell_same' W6 ⟨w.heap.size + 1, 0, none⟩ (.bool true) (by rw [hcR]; rfl)) (grownBy_putObj' _ D2 (.deferred none)) (fun r e => by cases e; exact ⟨_, hKb', rfl⟩)
          have hc5 := cell_kept hc4 (grownBy_putObj' _ D (.deferred none)) (fun r e => by cases e; exact ⟨_, hKa', rfl⟩)
          refine ⟨.bool true, ?_, rfl, ?_⟩
          · simp [results, Try.f6, go_sem, hc5]
          · exact ((M6.out.1.2.2.setCell (p := ⟨w.heap.size + 1, 0, none⟩) (show w.heap.size ≤ w.heap.size + 1 by omega) _).trans (belowK_b (w := w) (Nat.le_refl _) _ D2 _ _ hlo2 hKb' rfl rfl)).trans (belowK_b (w := w) (Nat.le_refl _) _ D _ _ hlo1 hKa' rfl rfl)
end Go.Proofs.Ytgolghimefageaa.QW
