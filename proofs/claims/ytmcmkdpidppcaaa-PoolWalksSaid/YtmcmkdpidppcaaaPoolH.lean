/- whole: a pool goes over just these: the walk. -/
import Derived.Sort.LoopGhostIn
import Derived.Test.YtmcmkdpidppcaaaPurePool6
namespace Go.Proofs.Ytmcmkdpidppcaaa.St
open Go.Proofs Go.RowKit Go.Shelf Go.Proofs.YtmcmkdpidppcaaaW.PrintWords
attribute [local go_sem] Oper.semAt_some
theorem kq2_set {n₀ b1 b2 B : Nat} {A W : World} (h : Kq2 n₀ b1 b2 A W) (hB : n₀ ≤ B) (h1 : b1 ≠ B) (h2 : b2 ≠ B) (u : Value) : Kq2 n₀ b1 b2 A (W.setCell ⟨B, 0, none⟩ u) :=
  ⟨h.1.setCell (p := ⟨B, 0, none⟩) hB u, fun k c t hk hc => (Below.heap_setCell W ⟨B, 0, none⟩ u k (by rcases hk with rfl | rfl <;> assumption)).trans (h.2 k c t hk hc)⟩
theorem boxed_ex_own {β : Type} (B : Nat) (t : TypeId) (G : β → Nat → Prop) : Own (fun s W => ∃ a : Nat, Boxed W B t (.int .i64 (a : Int)) ∧ G s a) := by
  rintro s X Y row ⟨a, hv, hG⟩ hg hrow
  refine ⟨a, hv.kept hg (fun e' => ?_), hG⟩
  obtain ⟨o, ho, hc⟩ := hrow B e'.symm
  rw [show X.heap[B]? = _ from hv] at ho
  cases ho
  cases hc
set_option maxRecDepth 100000 in
set_option maxHeartbeats 4000000 in
theorem whole_in {n0 : Nat} {w : World} {b : Nat} {vs vf : Value} {S : List (Bool × Int)} {F : List Int} (h : PoolAt n0 w b vs vf S F) (hS : 0 < S.length) (hS2 : S.length ≤ 65536) (gl c : Nat) (hgl : gl < w.heap.size)
    (hcl : ∀ j, j < S.length → w.cell? ⟨gl, j * 2, none⟩ = some (.bool (S.getD j (false, 0)).1) ∧ w.cell? ⟨gl, j * 2 + 1, none⟩ = some (.int .i64 (S.getD j (false, 0)).2)) :
    CallsIn Fence.wide 3 Try.prog 24 #[.pointer (some ⟨b, 0, none⟩), .slice (some ⟨gl, 0, none⟩) S.length c] w fun e W' => e = .returned (.bool true) ∧ Below w.heap.size w W' := by
  have HAC := Aside0.mk (all_calls (h.kept (below_alloc (below_alloc (Below.refl _ w) (.cells #[.slice (some ⟨gl, 0, none⟩) S.length c] 32)) (.cells #[.bool false] 4))) hS hS2)
  have HS := Go.Lib.hid hS
  have HS2 := Go.Lib.hid hS2
  have HCL : Aside0 (∀ j, j < S.length → w.cell? ⟨gl, j * 2, none⟩ = some (.bool (S.getD j (false, 0)).1) ∧ w.cell? ⟨gl, j * 2 + 1, none⟩ = some (.int .i64 (S.getD j (false, 0)).2)) := ⟨hcl⟩
  clear h hS hS2 hcl
  have hs1 : (w.alloc (.cells #[.slice (some ⟨gl, 0, none⟩) S.length c] 32)).heap.size = w.heap.size + 1 := World.size_alloc _ _
  have hs2 : ((w.alloc (.cells #[.slice (some ⟨gl, 0, none⟩) S.length c] 32)).alloc (.cells #[.bool false] 4)).heap.size = w.heap.size + 2 := by rw [World.size_alloc, hs1]
  refine callsIn_of_wp_marks Try.func24 rfl trivial ?_ rfl
  simp only [Try.ntmps24, List.size_toArray, List.length_cons, List.length_nil, Nat.reduceAdd, Nat.reduceSub, Array.replicate_succ, Array.replicate_zero, List.push_toArray, List.append_toArray, List.nil_append, List.cons_append]
  gi_wp2_with (refine ⟨trivial, ?_⟩; gi_at_call 25; refine (callsIn_wide.2 HAC.out).mono ?_; rintro e w3 ⟨g, v, rfl, hgg, hg3, hown3, hB3⟩; rw [hs2] at hgg; subst hgg; have heq := eqf #[.pointer (some ⟨w.heap.size + 2, 0, none⟩)])
  rw [hs2] at hown3 hB3
  obtain ⟨gn, capn, rfl, hgn, hgn2⟩ := own_some hown3 HS.out
  obtain ⟨cur, hcur, hcs⟩ : ∃ cur, w3.heap[gn]? = some (.cells cur 89 (0, 0)) ∧ ∀ (j : Nat) (u : Value), (slotCells S)[j]? = some u → cur[j]? = some u := by
    rcases hown3.2 with ⟨h', _⟩ | ⟨g', cap', cur, h', _, hh, _⟩
    · cases h'
    · injection h' with h1
      injection h1 with h1
      injection h1 with h1
      subst h1
      refine ⟨cur, hh, fun j u hj => ?_⟩
      have hc := own_cell hown3 j u hj
      rwa [cell_of_row w3 gn j cur _ (0, 0) hh] at hc
  have hlt3 : w.heap.size + 3 ≤ w3.heap.size := by have := (Array.getElem?_eq_some_iff.1 hg3).1; omega
  have bN3 : Boxed w3 (w.heap.size + 2) 85 (.slice (some ⟨gn, 0, none⟩) S.length capn) := hg3
  have bL3 : Boxed w3 w.heap.size 32 (.slice (some ⟨gl, 0, none⟩) S.length c) := (hB3.block w.heap.size (by omega)).trans ((Boxed.new w 32 _).alloc _)
  have bR3 : Boxed w3 (w.heap.size + 1) 4 (.bool false) := by
    have h := Boxed.new (w.alloc (.cells #[.slice (some ⟨gl, 0, none⟩) S.length c] 32)) 4 (.bool false)
    rw [hs1] at h
    exact (hB3.block (w.heap.size + 1) (by omega)).trans h
  have hB : Below w.heap.size w w3 := (below_alloc (below_alloc (Below.refl _ w) _) _).trans (hB3.mono (by omega))
  clear HAC hs1 hs2 hown3 hB3 hg3 heq
  obtain ⟨W0, hW0⟩ : ∃ W0, W0 = w3.alloc (.cells #[.int .i64 0] 3) := ⟨_, rfl⟩
  have hs0 : W0.heap.size = w3.heap.size + 1 := by rw [hW0]; exact World.size_alloc _ _
  have bA : Boxed W0 w3.heap.size 3 (.int .i64 ((0 : Nat) : Int)) := by rw [hW0]; exact Boxed.new w3 _ _
  have bN : Boxed W0 (w.heap.size + 2) 85 (.slice (some ⟨gn, 0, none⟩) S.length capn) := by rw [hW0]; exact bN3.alloc _
  have bL : Boxed W0 w.heap.size 32 (.slice (some ⟨gl, 0, none⟩) S.length c) := by rw [hW0]; exact bL3.alloc _
  have bR : Boxed W0 (w.heap.size + 1) 4 (.bool false) := by rw [hW0]; exact bR3.alloc _
  have hB0 : Below w.heap.size w W0 := by rw [hW0]; exact below_alloc hB _
  have hcur0 : W0.heap[gn]? = some (.cells cur 89 (0, 0)) := by rw [hW0]; exact (heap_alloc_old w3 _ hgn2).trans hcur
  rw [← hW0]
  clear hW0 bN3 bL3 bR3 hB hcur
  refine wpIn_rangeFunc_ownG rfl (by omega) (gf := 43) (lb := #[.pointer (some ⟨w.heap.size + 2, 0, none⟩)]) rfl trivial (enters_of Try.func43 (by kernel_rfl) rfl)
    (all_stops (w.heap.size + 2) gn w.heap.size S capn cur W0 HS2.out hcs (by omega) (by omega) bN hcur0) kq2_t (kq2_b (by omega)) (Below.refl _ _) (fun _ => rfl)
    (fun (pre : List (Int × Int)) (W : World) => (∃ a : Nat, Boxed W w3.heap.size 3 (.int .i64 (a : Int)) ∧ runW S pre = some a ∧ a ≤ S.length) ∧ (Boxed W w.heap.size 32 (.slice (some ⟨gl, 0, none⟩) S.length c) ∧ Boxed W (w.heap.size + 1) 4 (.bool false)) ∧ Below w.heap.size w W)
    (fun _ pre _ => runW S pre = none)
    (OwnFrom.and (Own.from (boxed_ex_own w3.heap.size 3 (fun pre a => runW S pre = some a ∧ a ≤ S.length)) _) (OwnFrom.and (OwnFrom.and (Own.from (boxed_own w.heap.size 32 (fun _ => .slice (some ⟨gl, 0, none⟩) S.length c)) _) (Own.from (boxed_own (w.heap.size + 1) 4 (fun _ => .bool false)) _)) (ownFrom_below (Nat.le_refl _) (by omega))))
    (fun _ _ _ _ _ hs _ _ => hs)
    ⟨⟨0, bA, rfl, Nat.zero_le _⟩, ⟨bL, bR⟩, hB0⟩
    (fun x => { tmps := #[.pointer (some ⟨b, 0, none⟩), .slice (some ⟨gl, 0, none⟩) S.length c, undef, .pointer (some ⟨w.heap.size, 0, none⟩), .pointer (some ⟨w.heap.size + 1, 0, none⟩), .func (.func 43) #[] #[.pointer (some ⟨w.heap.size + 2, 0, none⟩)], .pointer (some ⟨w3.heap.size, 0, none⟩), .int .i64 x.1, .int .i64 x.2, .pointer (some ⟨b, 0, none⟩), .func (.func 43) #[] #[.pointer (some ⟨w.heap.size + 2, 0, none⟩)], .func (.func 43) #[] #[.pointer (some ⟨w.heap.size + 2, 0, none⟩)], .bool false, .func (.func 43) #[] #[.pointer (some ⟨w.heap.size + 2, 0, none⟩)], .int .i64 x.1, .int .i64 x.2, undef, undef, undef, undef, undef, undef, undef, undef, undef, undef, undef, undef, undef, undef, undef, undef, undef, undef, undef, undef, undef, undef, undef, undef, undef, undef, undef, undef, undef, undef, undef, undef, undef, undef, undef, undef, undef, undef, undef, undef, undef, undef, undef, undef, undef, undef, undef, undef, undef, undef, undef, undef], defers := [] }) ?assign ?body ?done ?stop
  case assign =>
    intro l x W K hK
    gi_wp2
    exact hK
  case body =>
    rintro l pre x W ⟨⟨a, ha, hrun, han⟩, ⟨hl, hr⟩, hBW⟩ hlt
    gi_wp2
    gi_loopg [] (S.length + 1 - a) (fun kx wr => ∃ i : Nat, Boxed wr w3.heap.size 3 (.int .i64 (i : Int)) ∧ (i ≤ S.length ∧ skip S i = skip S a ∧ S.length < i + kx) ∧ (Boxed wr w.heap.size 32 (.slice (some ⟨gl, 0, none⟩) S.length c) ∧ Boxed wr (w.heap.size + 1) 4 (.bool false)) ∧ Below w.heap.size w wr ∧ KeepsOthers W wr ∧ Kq2 w.heap.size (w.heap.size + 2) gn W wr)
    case atStart => exact ⟨a, ha, ⟨han, rfl, by omega⟩, ⟨hl, hr⟩, hBW, KeepsOthers.refl W, Below.refl _ W, fun _ _ _ _ h => h⟩
    case round =>
      obtain ⟨i, hi, ⟨hin, hsk, hik⟩, ⟨hl2, hr2⟩, hB2, hko, hkq⟩ := hrel
      have hcA := hi.cell
      have hfA := hi.frozen
      have hcL := hl2.cell
      have hcR := hr2.cell
      have hfR := hr2.frozen
      have H0 := Aside0.mk (And.intro (And.intro hi hl2) (And.intro hr2 hB2))
      have H1 := Aside0.mk (And.intro hko hkq)
      have H2 : Hid (i ≤ S.length ∧ skip S i = skip S a ∧ S.length < i + gk) := ⟨hin, hsk, hik⟩
      clear hi hl2 hr2 hB2 hko hkq hsk hik ha hl hr hBW
      by_cases c1 : i < S.length
      · obtain ⟨q0, q1⟩ := HCL.out i c1
        have k0 : wr.cell? ⟨gl, i * 2, none⟩ = some (.bool (S.getD i (false, 0)).1) := (H0.out.2.2.cell (p := ⟨gl, i * 2, none⟩) hgl).trans q0
        have k1 : wr.cell? ⟨gl, i * 2 + 1, none⟩ = some (.int .i64 (S.getD i (false, 0)).2) := (H0.out.2.2.cell (p := ⟨gl, i * 2 + 1, none⟩) hgl).trans q1
        have z1 : decide ((i : Int) < (S.length : Int)) = true := decide_eq_true (by omega)
        have z2 : ((i : Int) == (S.length : Int)) = false := beq_eq_false_iff_ne.2 (by omega)
        have z3 : 0 ≤ (i : Int) := by omega
        have z4 : (i : Int) < (S.length : Int) := by omega
        have z5 : wrap64 ((i : Int) + 1) = ((i + 1 : Nat) : Int) := by have := HS2.out; unfold wrap64; omega
        clear q0 q1
        have C1 := Go.Lib.hid c1
        clear c1
        cases e : (S.getD i (false, 0)).1 with
        | false =>
          rw [e] at k0
          have E := Go.Lib.hid e
          clear e
          gi_wp2
          go_roundg (S.length - i)
          case measure => have := H2.2.2; have := C1.out; omega
          case rel =>
            have hc := C1.out
            exact ⟨i + 1, Boxed.set _ H0.out.1.1, ⟨by omega, (skip_next hc E.out).symm.trans H2.2.1, by omega⟩, ⟨H0.out.1.2.other (by omega) _, H0.out.2.1.other (by omega) _⟩, H0.out.2.2.setCell (p := ⟨w3.heap.size, 0, none⟩) (show w.heap.size ≤ w3.heap.size by omega) _, H1.out.1.trans (KeepsOthers.setCell _ _ _), kq2_set H1.out.2 (by omega) (by omega) (by omega) _⟩
        | true =>
          rw [e] at k0
          have hsi : skip S a = i := H2.2.1.symm.trans (skip_here e)
          have hst : stepW S a x = if x.1 = (i : Int) ∧ x.2 = (S.getD i (false, 0)).2 then some (i + 1) else none := by
            unfold stepW
            rw [hsi]
            by_cases c : x.1 = (i : Int) ∧ x.2 = (S.getD i (false, 0)).2
            · rw [if_pos c, if_pos ⟨C1.out, c⟩]
            · rw [if_neg c, if_neg (fun h => c h.2)]
          obtain ⟨v, ev⟩ : ∃ v, v = (S.getD i (false, 0)).2 := ⟨_, rfl⟩
          rw [← ev] at k1 hst
          clear ev e hsi
          have HST := Aside0.mk hst
          have HRUN := Aside0.mk hrun
          clear hst hrun
          by_cases e1 : x.1 = (i : Int)
          · by_cases e2 : x.2 = v
            · have z6 : (x.1 != (i : Int)) = false := by rw [e1]; simp
              have z7 : (x.2 != v) = false := by rw [e2]; simp
              have z8 : (i : Int) ≠ (S.length : Int) := by omega
              have E12 := Go.Lib.hid (And.intro e1 e2)
              clear e1 e2
              gi_wp2
              refine ⟨(H1.out.1.trans (KeepsOthers.setCell _ _ _)).from _, kq2_set H1.out.2 (by omega) (by omega) (by omega) _, ⟨i + 1, Boxed.set _ H0.out.1.1, ?_, C1.out⟩, ⟨H0.out.1.2.other (by omega) _, H0.out.2.1.other (by omega) _⟩, H0.out.2.2.setCell (p := ⟨w3.heap.size, 0, none⟩) (show w.heap.size ≤ w3.heap.size by omega) _⟩
              rw [runW_snoc, HRUN.out]
              exact HST.out.trans (if_pos E12.out)
            · have z6 : (x.1 != (i : Int)) = false := by rw [e1]; simp
              have z7 : (x.2 != v) = true := bne_iff_ne.2 e2
              have E12 : Hid (¬ (x.1 = (i : Int) ∧ x.2 = v)) := fun h => e2 h.2
              clear e1 e2
              gi_wp2
              refine ⟨(H1.out.1.trans (KeepsOthers.setCell _ _ _)).from _, ?_⟩
              show runW S _ = none
              rw [runW_snoc, HRUN.out]
              exact HST.out.trans (if_neg E12.out)
          · have z6 : (x.1 != (i : Int)) = true := bne_iff_ne.2 e1
            have E12 : Hid (¬ (x.1 = (i : Int) ∧ x.2 = v)) := fun h => e1 h.1
            clear e1
            gi_wp2
            refine ⟨(H1.out.1.trans (KeepsOthers.setCell _ _ _)).from _, ?_⟩
            show runW S _ = none
            rw [runW_snoc, HRUN.out]
            exact HST.out.trans (if_neg E12.out)
      · have z1 : decide ((i : Int) < (S.length : Int)) = false := decide_eq_false (by omega)
        have z9 : decide (i < S.length) = false := decide_eq_false c1
        have z2 : ((i : Int) == (S.length : Int)) = true := beq_iff_eq.2 (by omega)
        have hst : stepW S a x = none := by
          unfold stepW
          rw [if_neg]
          intro h
          have h1 := h.1
          rw [← H2.2.1, skip_end (by omega)] at h1
          omega
        have HST := Aside0.mk hst
        have HRUN := Aside0.mk hrun
        clear hst hrun c1 hin
        gi_wp2
        refine ⟨(H1.out.1.trans (KeepsOthers.setCell _ _ _)).from _, ?_⟩
        show runW S _ = none
        rw [runW_snoc, HRUN.out]
        exact HST.out
  case done =>
    rintro D ys W hD rfl ⟨⟨a, ha, hrun, han⟩, ⟨hl, hr⟩, hBW⟩ hK
    gi_wp2
    gi_loopg [] (S.length + 1 - a) (fun kx wr => ∃ i : Nat, Boxed wr w3.heap.size 3 (.int .i64 (i : Int)) ∧ (i ≤ S.length ∧ skip S i = skip S a ∧ S.length < i + kx) ∧ (Boxed wr w.heap.size 32 (.slice (some ⟨gl, 0, none⟩) S.length c) ∧ Boxed wr (w.heap.size + 1) 4 (.bool false)) ∧ Below w.heap.size w wr ∧ wr.heap[D]? = some (.deferred (some [])))
    case atStart => exact ⟨a, ha, ⟨han, rfl, by omega⟩, ⟨hl, hr⟩, hBW, hK⟩
    case round =>
      obtain ⟨i, hi, ⟨hin, hsk, hik⟩, ⟨hl2, hr2⟩, hB2, hK2⟩ := hrel
      have hcA := hi.cell
      have hfA := hi.frozen
      have hcL := hl2.cell
      have hcR := hr2.cell
      have hfR := hr2.frozen
      have H0 := Aside0.mk (And.intro (And.intro hi hl2) (And.intro hr2 hB2))
      have H1 := Aside0.mk hK2
      have H2 : Hid (i ≤ S.length ∧ skip S i = skip S a ∧ S.length < i + gk) := ⟨hin, hsk, hik⟩
      clear hi hl2 hr2 hB2 hK2 hsk hik ha hl hr hBW hK
      by_cases c1 : i < S.length
      · obtain ⟨q0, q1⟩ := HCL.out i c1
        have k0 : wr.cell? ⟨gl, i * 2, none⟩ = some (.bool (S.getD i (false, 0)).1) := (H0.out.2.2.cell (p := ⟨gl, i * 2, none⟩) hgl).trans q0
        have z1 : decide ((i : Int) < (S.length : Int)) = true := decide_eq_true (by omega)
        have z2 : ((i : Int) == (S.length : Int)) = false := beq_eq_false_iff_ne.2 (by omega)
        have z3 : 0 ≤ (i : Int) := by omega
        have z4 : (i : Int) < (S.length : Int) := by omega
        have z5 : wrap64 ((i : Int) + 1) = ((i + 1 : Nat) : Int) := by have := HS2.out; unfold wrap64; omega
        clear q0 q1
        have C1 := Go.Lib.hid c1
        clear c1
        cases e : (S.getD i (false, 0)).1 with
        | false =>
          rw [e] at k0
          have E := Go.Lib.hid e
          clear e
          gi_wp2
          go_roundg (S.length - i)
          case measure => have := H2.2.2; have := C1.out; omega
          case rel =>
            have hc := C1.out
            exact ⟨i + 1, Boxed.set _ H0.out.1.1, ⟨by omega, (skip_next hc E.out).symm.trans H2.2.1, by omega⟩, ⟨H0.out.1.2.other (by omega) _, H0.out.2.1.other (by omega) _⟩, H0.out.2.2.setCell (p := ⟨w3.heap.size, 0, none⟩) (show w.heap.size ≤ w3.heap.size by omega) _, (KeepsOthers.setCell _ _ _).same D _ H1.out rfl⟩
        | true =>
          exfalso
          obtain ⟨a2, r1, r2, r3⟩ := runW_taken S S.length (Nat.le_refl _)
          rw [r1] at hrun
          injection hrun with hrun
          subst hrun
          have h1 := skip_far S.length (Nat.le_refl _) _ a2 rfl r2 r3
          rw [skip_end (Nat.le_refl _), ← H2.2.1, skip_here e] at h1
          have := C1.out
          omega
      · obtain rfl : i = S.length := by omega
        have z1 : decide ((S.length : Int) < (S.length : Int)) = false := decide_eq_false (by omega)
        have z2 : ((S.length : Int) == (S.length : Int)) = true := beq_self_eq_true _
        have hK := H1.out
        clear c1 hin hrun han
        gi_wp2
        have hK' : (wr.setCell ⟨w.heap.size + 1, 0, none⟩ (.bool true)).heap[D]? = some (.deferred (some [])) := (KeepsOthers.setCell _ _ _).same D _ hK rfl
        refine ⟨by simp, .inl ⟨_, _, rfl, run_takeDeferred hK', ?_⟩⟩
        have hc5 := cell_kept (World.cell?_setCell_same' wr ⟨w.heap.size + 1, 0, none⟩ (.bool true) (by rw [hcR]; rfl)) (grownBy_putObj' _ D (.deferred none)) (fun r e => by cases e; exact ⟨_, hK', rfl⟩)
        refine ⟨.bool true, ?_, rfl, ?_⟩
        · simp [results, Try.f24, go_sem, hc5]
        · exact (H0.out.2.2.setCell (p := ⟨w.heap.size + 1, 0, none⟩) (show w.heap.size ≤ w.heap.size + 1 by omega) _).trans (belowK_b (w := w) (Nat.le_refl _) _ D _ _ (by omega) hK' rfl rfl)
  case stop =>
    rintro D c' pre W _ ⟨k, hk, rfl⟩ hx _
    obtain ⟨a, h1, _⟩ := runW_taken S k hk
    rw [h1] at hx
    cases hx
theorem whole_calls {n0 : Nat} {w : World} {b : Nat} {vs vf : Value} {S : List (Bool × Int)} {F : List Int} (h : PoolAt n0 w b vs vf S F) (hS : 0 < S.length) (hS2 : S.length ≤ 65536) (gl c : Nat) (hgl : gl < w.heap.size)
    (hcl : ∀ j, j < S.length → w.cell? ⟨gl, j * 2, none⟩ = some (.bool (S.getD j (false, 0)).1) ∧ w.cell? ⟨gl, j * 2 + 1, none⟩ = some (.int .i64 (S.getD j (false, 0)).2)) :
    Calls Try.prog 24 #[.pointer (some ⟨b, 0, none⟩), .slice (some ⟨gl, 0, none⟩) S.length c] w fun e W' => e = .returned (.bool true) ∧ Below w.heap.size w W' := callsIn_wide.1 (whole_in h hS hS2 gl c hgl hcl)
end Go.Proofs.Ytmcmkdpidppcaaa.St
