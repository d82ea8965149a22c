/- A queue: compare, and where one belongs (slices.BinarySearchFunc). -/
import Derived.Test.YtgolghimefageaaQWB
namespace Go.Proofs.Ytgolghimefageaa.QW
open Go.Proofs Go.RowKit Go.Shelf Go.Lib Go.Sort Go.Maps Go.Proofs.YtgolghimefageaaW.PrintWords Go.Proofs.YtgolghimefageaaW.PrintLast Go.Proofs.YtgolghimefageaaW.PrintMore Go.Proofs.Ytgolghimefageaa.St
set_option maxRecDepth 100000 in
theorem isNaNi_calls (x : Int) (w : World) : Calls Try.prog 76 #[.int .i64 x] w fun e w' => e = .returned (.bool false) ∧ ∃ q os, w' = grow (w.drewN q) os := by
  have h : (x != x) = false := by rw [bne_eq_false_iff_eq]
  go_enter Try.func76, Try.ntmps76
  go_wp2
  refine bodyPost_ret (results_tmp rfl _ _ _) rfl ?_
  exact ⟨rfl, 0, #[], by rw [grow_empty]; rfl⟩
set_option maxRecDepth 100000 in
theorem cmpn_calls (x y : Int) (w : World) : Calls Try.prog 63 #[.int .i64 x, .int .i64 y] w fun e w' => e = .returned (.int .i64 (cmpN x y)) ∧ ∃ q os, w' = grow (w.drewN q) os := by
  obtain ⟨t1, e1⟩ : ∃ t, t = decide (x < y) := ⟨_, rfl⟩
  obtain ⟨t2, e2⟩ : ∃ t, t = decide (y < x) := ⟨_, rfl⟩
  have HC : Hid (cmpN x y = if t1 then -1 else if t2 then 1 else 0) := by show _ = _; rw [e1, e2]; unfold cmpN; simp only [decide_eq_true_eq]
  have k1 : decide (x < y) = t1 := by rw [e1]
  have k2 : decide (y < x) = t2 := by rw [e2]
  clear e1 e2
  go_enter Try.func63, Try.ntmps63
  go_wp2_with fail
  ((with_reducible refine (isNaNi_calls x _).mono ?_))
  rintro e' w1 ⟨rfl, q1, os1, rfl⟩
  go_wp2_with fail
  ((with_reducible refine (isNaNi_calls y _).mono ?_))
  rintro e' w2 ⟨rfl, q2, os2, rfl⟩
  have hg : grow ((grow (w.drewN q1) os1).drewN q2) os2 = grow (w.drewN (q1 + q2)) (os1 ++ os2) := by
    show grow (grow ((w.drewN q1).drewN q2) os1) os2 = _
    rw [grow_grow, World.drewN_drewN]
  cases t1 with
  | true =>
    go_wp2
    refine bodyPost_ret (results_tmp rfl _ _ _) rfl ?_
    exact ⟨by rw [HC.out]; rfl, _, _, rfl⟩
  | false =>
    cases t2 with
    | true =>
      go_wp2
      refine bodyPost_ret (results_tmp rfl _ _ _) rfl ?_
      exact ⟨by rw [HC.out]; rfl, _, _, rfl⟩
    | false =>
      go_wp2
      refine bodyPost_ret (results_tmp rfl _ _ _) rfl ?_
      exact ⟨by rw [HC.out]; rfl, _, _, rfl⟩
/-- An element lies in w. -/
def ElAt (w : World) (x : El) : Prop := w.heap[x.p]? = some (.cells (elCells x) 102 (0, 0))
theorem ElAt.cells {w : World} {x : El} (h : ElAt w x) : w.cell? ⟨x.p, 0, none⟩ = some (.int .i64 x.k) ∧ w.cell? ⟨x.p, 1, none⟩ = some (.int .i64 x.v) ∧ w.cell? ⟨x.p, 2, none⟩ = some (.int .i64 x.came) ∧ w.cell? ⟨x.p, 3, none⟩ = some (.int .i64 x.ticket) :=
  ⟨cells_at h 0 _ rfl, cells_at h 1 _ rfl, cells_at h 2 _ rfl, cells_at h 3 _ rfl⟩
theorem ElAt.lt {w : World} {x : El} (h : ElAt w x) : x.p < w.heap.size := (Array.getElem?_eq_some_iff.1 h).1
set_option maxRecDepth 100000 in
set_option maxHeartbeats 1000000 in
theorem cmp_calls (x y : El) (w : World) (hx : ElAt w x) (hy : ElAt w y) : Calls Try.prog 57 #[.pointer (some ⟨x.p, 0, none⟩), .pointer (some ⟨y.p, 0, none⟩)] w fun e w' => e = .returned (.int .i64 (cmpE x y)) ∧ Below w.heap.size w w' := by
  have mixed : Try.prog.follows .mixedOrders = true := by kernel_rfl
  have g0 : ∀ (p j : Nat) v, p < w.heap.size → w.cell? ⟨p, j, none⟩ = some v → ∀ n os, (grow (w.drewN n) os).cell? ⟨p, j, none⟩ = some v := by
    intro p j v hl h n os
    rw [cell?_grow (w.drewN n) os ⟨p, j, none⟩ hl]
    exact h
  obtain ⟨x0, _, x2, _⟩ := hx.cells
  obtain ⟨y0, _, y2, _⟩ := hy.cells
  have lx := g0 _ _ _ hx.lt x0
  have lx2 := Aside0.mk (g0 _ _ _ hx.lt x2)
  have ly := g0 _ _ _ hy.lt y0
  have ly2 := Aside0.mk (g0 _ _ _ hy.lt y2)
  have HE : Hid (cmpE x y = if cmpK x.k y.k = 0 then cmpN x.came y.came else cmpK x.k y.k) := rfl
  have HB : Aside0 (∀ q os, Below w.heap.size w (grow (w.drewN q) os)) := ⟨fun q os => ⟨rfl, rfl, rfl, by show _ ≤ (w.heap ++ os).size; rw [Array.size_append]; omega, fun i hi => by show (w.heap ++ os)[i]? = _; rw [Array.getElem?_append_left hi]⟩⟩
  obtain ⟨c, hc⟩ : ∃ c, c = cmpK x.k y.k := ⟨_, rfl⟩
  have HC : Hid (c = cmpK x.k y.k) := hc
  have hk := cmpk_calls x.k y.k
  rw [← hc] at hk
  clear hx hy g0 x0 x2 y0 y2 hc
  go_enter Try.func57, Try.ntmps57
  by_cases c0 : c = 0
  · subst c0
    go_wp2_with fail
    go_quiet_grown (refine Calls.grown_of (hk _))
    clear lx ly
    have hg : ∀ m os, grow ((grow (w.drewN nq) osq).drewN m) os = grow (w.drewN (nq + m)) (osq ++ os) := fun m os => by
      show grow (grow ((w.drewN nq).drewN m) osq) os = _
      rw [grow_grow, World.drewN_drewN]
    have la2 : ∀ m os, (grow ((grow (w.drewN nq) osq).drewN m) os).cell? ⟨x.p, 2, none⟩ = some (.int .i64 x.came) := fun m os => by rw [hg]; exact lx2.out _ _
    have lb2 : ∀ m os, (grow ((grow (w.drewN nq) osq).drewN m) os).cell? ⟨y.p, 2, none⟩ = some (.int .i64 y.came) := fun m os => by rw [hg]; exact ly2.out _ _
    have HG := Aside0.mk hg
    clear hg
    go_wp2_with fail
    go_quiet_grown (refine Calls.grown_of (cmpn_calls x.came y.came _))
    go_wp2_with fail
    refine bodyPost_ret (results_tmp rfl _ _ _) rfl ?_
    refine ⟨?_, ?_⟩
    · rw [HE.out, if_pos HC.out.symm]; rfl
    · first | exact HB.out _ _ | (rw [HG.out]; exact HB.out _ _)
  · have hne : (c != 0) = true := by rw [bne_iff_ne]; exact c0
    go_wp2_with fail
    go_quiet_grown (refine Calls.grown_of (hk _))
    clear lx ly
    go_wp2_with fail
    refine bodyPost_ret (results_tmp rfl _ _ _) rfl ?_
    refine ⟨?_, ?_⟩
    · rw [HE.out, if_neg (fun h => c0 (HC.out.trans h)), ← HC.out]; rfl
    · first | exact HB.out _ _ | (rw [HG.out]; exact HB.out _ _)
theorem mid_is (i j : Nat) (hi : i ≤ 65536) (hj : j ≤ 65536) : wrap64 (IntKind.u64.wrap (wrap64 ((i : Int) + (j : Int))) / 2) = (((i + j) / 2 : Nat) : Int) := by
  have e1 : wrap64 ((i : Int) + (j : Int)) = ((i + j : Nat) : Int) := by unfold wrap64; omega
  have e2 : IntKind.u64.wrap ((i + j : Nat) : Int) = ((i + j : Nat) : Int) := by
    simp [IntKind.wrap, IntKind.bits, IntKind.signed]
    omega
  rw [e1, e2]
  unfold wrap64
  omega
set_option maxRecDepth 100000 in
set_option maxHeartbeats 4000000 in
theorem search_calls {n0 : Nat} {w : World} {vl : Value} {E : List El} (hown : w.ownsRow n0 100 1 vl E.length (ptrs E)) (hels : ∀ x ∈ E, ElAt w x) (y : El) (hy : ElAt w y) (hlen : E.length ≤ 65536) (hsort : E.Pairwise Ahead) :
    Calls Try.prog 56 #[vl, .pointer (some ⟨y.p, 0, none⟩), .func (.func 57) #[] #[]] w fun e w' => ∃ (k : Nat) (t : Bool), e = .returned (.tuple #[.int .i64 (k : Int), .bool t]) ∧ k ≤ E.length ∧ (∀ j, j < k → Ahead E[j]! y) ∧ (∀ j, k ≤ j → j < E.length → ¬ Ahead E[j]! y) ∧ Below w.heap.size w w' := by
  obtain ⟨va, vc, rfl⟩ := own_form hown
  have HC : Aside0 (∀ wr, Below w.heap.size w wr → ∀ j, j < E.length → ∃ g, va = some ⟨g, 0, none⟩ ∧ wr.cell? ⟨g, j, none⟩ = some (.pointer (some ⟨E[j]!.p, 0, none⟩)) ∧ ElAt wr E[j]!) := by
    refine ⟨fun wr hB j hj => ?_⟩
    obtain ⟨g, cap, e, hg1, hg2⟩ := own_some hown (by omega)
    injection e with e1 _ _
    subst e1
    have hm : E[j]! ∈ E := by rw [getElem!_pos E j hj]; exact List.getElem_mem hj
    have hc := own_cell hown j (.pointer (some ⟨E[j]!.p, 0, none⟩)) (by unfold ptrs; rw [List.getElem?_map, List.getElem?_eq_getElem hj, getElem!_pos E j hj]; rfl)
    refine ⟨g, rfl, ?_, ?_⟩
    · unfold World.cell? at hc ⊢
      rw [hB.block g hg2]
      exact hc
    · exact (hB.block _ (hels _ hm).lt).trans (hels _ hm)
  have HY : Aside0 (∀ wr, Below w.heap.size w wr → ElAt wr y) := ⟨fun wr hB => (hB.block _ hy.lt).trans hy⟩
  have HL := Go.Lib.hid hlen
  have HS : Aside0 (∀ i j, i < j → j < E.length → Ahead E[i]! E[j]!) := ⟨fun i j hij hj => by
    rw [getElem!_pos E j hj, getElem!_pos E i (by omega)]
    exact List.pairwise_iff_getElem.1 hsort i j (by omega) hj hij⟩
  clear hown hels hy hlen hsort
  go_enter Try.func56, Try.ntmps56
  go_wp2
  go_loopg [9, 10] (E.length + 1) (fun kx s9 s10 wr => ∃ (i j : Nat), s9 = .int .i64 (i : Int) ∧ s10 = .int .i64 (j : Int) ∧ Hid (i ≤ j ∧ j ≤ E.length ∧ j - i < kx) ∧ Aside0 (∀ k, k < i → Ahead E[k]! y) ∧ Aside0 (∀ k, j ≤ k → k < E.length → ¬ Ahead E[k]! y) ∧ Aside0 (Below w.heap.size w wr))
  case atStart => exact ⟨0, E.length, rfl, rfl, ⟨Nat.zero_le _, Nat.le_refl _, by omega⟩, ⟨fun k hk => by omega⟩, ⟨fun k h1 h2 => by omega⟩, ⟨Below.refl _ _⟩⟩
  case round =>
    obtain ⟨i, j, rfl, rfl, hij, H1, H2, HB⟩ := hrel
    by_cases hlt : i < j
    · have hb := hij.out
      have hl := HL.out
      obtain ⟨m, hm⟩ : ∃ m, m = (i + j) / 2 := ⟨_, rfl⟩
      have hmid := mid_is i j (by omega) (by omega)
      rw [← hm] at hmid
      have hm1 : i ≤ m ∧ m < j := by omega
      have hml : m < E.length := by omega
      obtain ⟨g, rfl, hcm, hel⟩ := HC.out wr HB.out m hml
      have hcc := cmp_calls E[m]! y wr hel (HY.out wr HB.out)
      obtain ⟨x, ex⟩ : ∃ x, x = E[m]! := ⟨_, rfl⟩
      rw [← ex] at hcm hcc
      have HX := Aside0.mk ex
      obtain ⟨c, ec⟩ : ∃ c, c = cmpE x y := ⟨_, rfl⟩
      rw [← ec] at hcc
      have HCE := Go.Lib.hid ec
      have z1 : decide ((i : Int) < (j : Int)) = true := decide_eq_true (by omega)
      have z3 : 0 ≤ (m : Int) := by omega
      have z4 : (m : Int) < (E.length : Int) := by omega
      have HM := Go.Lib.hid (And.intro hm1 hml)
      by_cases cz : c < 0
      · have z5 : decide (c < 0) = true := decide_eq_true cz
        have HZ := Go.Lib.hid cz
        clear hb hl hm hm1 hml hel ex ec cz
        go_wp2_with (go_at_call 57; refine hcc.mono ?_; rintro e w2 ⟨rfl, hB2⟩; have HB2 := Aside0.mk (HB.out.trans (hB2.mono HB.out.size)); clear hB2)
        go_roundg (j - i)
        case measure => exact hij.out.2.2
        case rel =>
          have hm := HM.out
          have hl := HL.out
          have hb := hij.out
          have hA : Ahead E[m]! y := cmpE_neg.1 (by rw [← HX.out, ← HCE.out]; exact HZ.out)
          refine ⟨m + 1, j, by (show Value.int .i64 (wrap64 ((m : Int) + 1)) = Value.int .i64 ((m + 1 : Nat) : Int); congr 1; unfold wrap64; omega), rfl, ⟨by omega, hb.2.1, by omega⟩, ⟨fun k hk => ?_⟩, H2, HB2⟩
          by_cases ck : k = m
          · rw [ck]; exact hA
          · exact ahead_trans (HS.out k m (by omega) (by omega)) hA
      · have z5 : decide (c < 0) = false := decide_eq_false cz
        have HZ := Go.Lib.hid cz
        clear hb hl hm hm1 hml hel ex ec cz
        go_wp2_with (go_at_call 57; refine hcc.mono ?_; rintro e w2 ⟨rfl, hB2⟩; have HB2 := Aside0.mk (HB.out.trans (hB2.mono HB.out.size)); clear hB2)
        go_roundg (j - i)
        case measure => exact hij.out.2.2
        case rel =>
          have hm := HM.out
          have hb := hij.out
          have hA : ¬ Ahead E[m]! y := fun h => by have h1 := cmpE_neg.2 h; rw [← HX.out, ← HCE.out] at h1; have := HZ.out; omega
          refine ⟨i, m, rfl, rfl, ⟨by omega, by omega, by omega⟩, H1, ⟨fun k h1 h2 => ?_⟩, HB2⟩
          by_cases ck : k = m
          · rw [ck]; exact hA
          · exact fun h => hA (ahead_trans (HS.out m k (by omega) h2) h)
    · have hij2 := hij.out
      obtain rfl : i = j := by omega
      have z1 : decide ((i : Int) < (i : Int)) = false := decide_eq_false (by omega)
      have HBd := Go.Lib.hid hij2.2.1
      by_cases c : i < E.length
      · have z2 : decide ((i : Int) < (E.length : Int)) = true := decide_eq_true (by omega)
        obtain ⟨g, rfl, hci, hel⟩ := HC.out wr HB.out i c
        have hcc := cmp_calls E[i]! y wr hel (HY.out wr HB.out)
        have z3 : 0 ≤ (i : Int) := by omega
        have z4 : (i : Int) < (E.length : Int) := by omega
        obtain ⟨x, ex⟩ : ∃ x, x = E[i]! := ⟨_, rfl⟩
        rw [← ex] at hci hcc
        clear ex hij2 hlt c hij hel
        go_wp2_with (go_at_call 57; refine hcc.mono ?_; rintro e w2 ⟨rfl, hB2⟩; have HB2 := Aside0.mk (HB.out.trans (hB2.mono HB.out.size)); clear hB2)
        go_ret2
        exact ⟨i, _, rfl, HBd.out, H1.out, H2.out, HB2.out⟩
      · have z2 : decide ((i : Int) < (E.length : Int)) = false := decide_eq_false (by omega)
        have z5 : decide (i < E.length) = false := decide_eq_false c
        clear hij2 hlt hij
        go_wp2_with fail
        go_ret2
        exact ⟨i, _, rfl, HBd.out, H1.out, H2.out, HB.out⟩
end Go.Proofs.Ytgolghimefageaa.QW
