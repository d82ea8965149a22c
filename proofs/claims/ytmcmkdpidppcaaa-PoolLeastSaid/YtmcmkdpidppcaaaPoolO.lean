/- PoolLeast: the law's walk. -/
import Derived.Test.YtmcmkdpidppcaaaPurePool7
import Derived.Test.YtmcmkdpidppcaaaPoolL
namespace Go.Proofs.Ytmcmkdpidppcaaa.St
open Go.Proofs Go.RowKit Go.Maps Go.Proofs.YtmcmkdpidppcaaaW.PrintWords
theorem keyed_int : Keyed Try.prog 3 := int_keyed Try.underlying3
theorem zero_int (w : World) : (zeroValue 3).run Try.prog w = .ok (.int .i64 0) w := by kernel_rfl
/-- A pool, and a map beside it. -/
structure Part (n0 : Nat) (W : World) (n b : Nat) (vs vf : Value) (S : List (Bool × Int)) (F : List Int) (mb cnt : Nat) (D : DataW Unit) : Prop where
  pool : PoolAt n0 W b vs vf S F
  roomy : Roomy vf n F.length
  free : FreeOf S F
  len : S.length = n
  big : 0 < n ∧ n ≤ 65536
  own : W.ownsMap Try.prog 3 (plainElem Try.prog 3) mb cnt D
  hmb : n0 ≤ mb
section
variable {n0 : Nat} {W W' : World} {n b : Nat} {vs vf : Value} {S : List (Bool × Int)} {F : List Int} {mb cnt : Nat} {D : DataW Unit}
theorem own_same {P : Program} {k : TypeId} {R : Value → Option (DataW Unit × List MemPlace)} (h : W.ownsMap P k R mb cnt D) (e : W'.heap[mb]? = W.heap[mb]?) : W'.ownsMap P k R mb cnt D := by
  obtain ⟨es, clock, h1, h2⟩ := h
  exact ⟨es, clock, e.trans h1, h2⟩
theorem Part.apart (h : Part n0 W n b vs vf S F mb cnt D) : ¬ Foot b vs vf mb := by
  obtain ⟨es, clock, hm, _⟩ := h.own
  rintro (e | e | e)
  · rw [e, h.pool.blk] at hm
    cases hm
  · obtain ⟨cells, hc⟩ := own_typed h.pool.slots mb e
    rw [hc] at hm
    cases hm
  · obtain ⟨cells, hc⟩ := own_typed h.pool.free mb e
    rw [hc] at hm
    cases hm
theorem Part.keepMap (h : Part n0 W n b vs vf S F mb cnt D) (hk : Kept W W' (Foot b vs vf)) : W'.ownsMap Try.prog 3 (plainElem Try.prog 3) mb cnt D :=
  own_same h.own (hk.2 mb h.own.lt h.apart)
/-- The map has been written. -/
theorem Part.turn {cnt' : Nat} {D' : DataW Unit} (h : Part n0 W n b vs vf S F mb cnt D) (hg : W.grownBy W' (some mb)) (hm : W'.ownsMap Try.prog 3 (plainElem Try.prog 3) mb cnt' D') : Part n0 W' n b vs vf S F mb cnt' D' :=
  ⟨h.pool.keptS (P := fun k => k = mb) ⟨hg.size, fun i hi hne => hg.block i hi (fun e => hne (by injection e))⟩ (fun k hk e => h.apart (by rw [← e]; exact hk)), h.roomy, h.free, h.len, h.big, hm, h.hmb⟩
theorem Part.used (h : Part n0 W n b vs vf S F mb cnt D) (hD : MapIs S F D) : Calls Try.prog 20 #[.pointer (some ⟨b, 0, none⟩)] W fun e w' => e = .returned (.int .i64 (Maps.size D : Int)) ∧ ∃ k, w' = W.drewN k := by
  have h1 := h.len
  have h2 := h.big
  have h3 := hD.size
  have e : (Maps.size D : Int) = (S.length : Int) - (F.length : Int) := by omega
  rw [e]
  exact used_any h.pool (by omega) (by omega)
theorem Part.left (h : Part n0 W n b vs vf S F mb cnt D) (hD : MapIs S F D) : wrap64 ((n : Int) - (Maps.size D : Int)) = (F.length : Int) := by
  have h1 := h.len
  have h2 := h.big
  have h3 := hD.size
  unfold wrap64
  omega
theorem Part.give (h : Part n0 W n b vs vf S F mb cnt D) (k : Nat) (hk : k < S.length) (ht : (S.getD k (false, 0)).1 = true) : Calls Try.prog 19 #[.pointer (some ⟨b, 0, none⟩), .int .i64 (k : Int)] W fun e w' => ∃ vf' F', e = .returned (.tuple #[.int .i64 (S.getD k (false, 0)).2, .int .i64 0]) ∧ Part n0 w' n b vs vf' (S.set k (false, 0)) F' mb cnt D ∧ F'.length = F.length + 1 ∧ Below n0 W w' := by
  have h1 := h.len
  have h2 := h.big
  have hcnt := h.free.count
  have hFl : F.length < S.length := by
    have hp0 : 0 < (takenTo S S.length).length := List.length_pos_of_mem (a := ((k : Int), (S.getD k (false, 0)).2)) (List.mem_map.2 ⟨k, List.mem_filter.2 ⟨List.mem_range.2 (by omega), ht⟩, rfl⟩)
    omega
  refine (give_yes h.pool (by rw [h1]; exact h.roomy) k hk ht (by omega) hFl (fun j hj => by have := h.free.range j hj; omega) h.free.falls).mono ?_
  rintro e w2 ⟨vf2, p, rfl, hp, hlo, hhi, hP2, hRo, hB2, hK2, hown⟩
  have e : (F.take p ++ (k : Int) :: F.drop p).length = F.length + 1 := by rw [List.length_append, List.length_cons, List.length_take, List.length_drop]; omega
  rw [h1] at hRo
  exact ⟨vf2, _, rfl, ⟨hP2, by rw [e]; exact hRo, h.free.give hk ht hp hlo hhi, by rw [List.length_set]; exact h1, h2, h.keepMap hK2, h.hmb⟩, e, hB2⟩
theorem Part.take {F' : List Int} {fi : Int} (h : Part n0 W n b vs vf S (F' ++ [fi]) mb cnt D) (v : Int) : Calls Try.prog 18 #[.pointer (some ⟨b, 0, none⟩), .int .i64 v] W fun e w' => ∃ (m : Nat) (vf' : Value), e = .returned (.tuple #[.int .i64 (m : Int), .int .i64 0]) ∧ m < S.length ∧ (S.getD m (false, 0)).1 = false ∧ (∀ j, j < m → (S.getD j (false, 0)).1 = true) ∧ Part n0 w' n b vs vf' (S.set m (true, v)) F' mb cnt D ∧ Below n0 W w' := by
  obtain ⟨m, rfl, hm1, hm2, hm3, hm4⟩ := h.free.take (v := v)
  have h1 := h.len
  have h2 := h.big
  have hcnt := h.free.count
  have hr := h.roomy
  rw [List.length_append, List.length_singleton] at hr hcnt
  refine (take_calls h.pool hm1 (by omega) v).mono ?_
  rintro e w2 ⟨vf2, rfl, hP2, hB2, hRo, hK2, hown⟩
  rw [h1] at hRo
  exact ⟨m, vf2, rfl, hm1, hm2, hm3, ⟨hP2, hRo hr, hm4, by rw [List.length_set]; exact h1, h2, h.keepMap hK2, h.hmb⟩, hB2⟩
end
set_option maxRecDepth 100000 in
set_option maxHeartbeats 4000000 in
theorem least_yes (n : Nat) (hn : 1 ≤ n ∧ n ≤ 65536) (A : Option Addr) (c : Nat) (gs : List Int) (w : World) (hO : ∀ j, j < gs.length → ∃ ad, A = some ad ∧ w.cell? (ad.add j) = some (.int .i64 (gs.getD j 0))) (hwf : ∀ j, j < gs.length → (Lit.int .i64 (gs.getD j 0)).wf = true) (hl : gs.length ≤ 17592186044415) :
    Calls Try.prog 4 #[.int .i64 (n : Int), .slice A gs.length c] w fun e w' => e = .returned (.bool true) ∧ Below w.heap.size w w' := by
  have hmm := @run_makeMap Try.prog
  have HO := Aside0.mk (And.intro hO hwf)
  have HL := Go.Lib.hid hl
  have HN := Go.Lib.hid hn
  have HBg := Aside0.mk (begun_full (Below.refl w.heap.size w) n hn)
  clear hO hl hn hwf
  go_enter Try.func4, Try.ntmps4
  go_wp2_with (go_at_call 17; refine HBg.out.mono ?_; rintro e w1 ⟨b, vs, vf, lv, L, rfl, hD, hB1, _, rfl⟩; have H1 := Aside0.mk (And.intro hD hB1); clear hD hB1 HBg)
  have S0 : Aside0 (∃ F, (Part w.heap.size (w1.alloc (.map #[] 0)) n b vs vf (List.replicate n (false, 0)) F w1.heap.size 0 (.map []) ∧ MapIs (List.replicate n (false, 0)) F (.map [])) ∧ Below w.heap.size w (w1.alloc (.map #[] 0))) := by
    obtain ⟨F, hp, hr, hf⟩ := H1.out.1.pool
    rw [toS_new] at hp hf
    have hcnt := hf.count
    have hF : F.length = n := by
      have h0 : (takenTo (List.replicate n ((false, 0) : Bool × Int)) (List.replicate n ((false, 0) : Bool × Int)).length) = [] := by
        unfold takenTo
        rw [List.filter_eq_nil_iff.2, List.map_nil]
        intro k _
        rw [List.getD_eq_getElem?_getD, List.getElem?_replicate]
        split <;> decide
      rw [h0, List.length_nil, List.length_replicate] at hcnt
      omega
    exact ⟨⟨F, ⟨⟨hp.kept (below_alloc (Below.refl _ _) _), hr, hf, List.length_replicate, H1.out.1.big, World.ownsMap_made _ _ _ _, H1.out.2.size⟩, MapIs.new n F hF⟩, below_alloc H1.out.2 _⟩⟩
  have HSZ := Go.Lib.hid H1.out.2.size
  clear H1
  go_loopg [10] (gs.length + 1) (fun kx s10 wr => ∃ (i : Nat) (vf : Value) (S : List (Bool × Int)) (F : List Int) (cnt : Nat) (D : DataW Unit), s10 = .int .i64 (i : Int) ∧ Hid (i ≤ gs.length ∧ gs.length < i + kx) ∧ Hid (cnt ≤ i) ∧ Aside0 ((Part w.heap.size wr n b vs vf S F w1.heap.size cnt D ∧ MapIs S F D) ∧ Below w.heap.size w wr))
  case atStart =>
    obtain ⟨F, h1, h2⟩ := S0.out
    exact ⟨0, vf, _, F, 0, _, rfl, ⟨Nat.zero_le _, by omega⟩, Nat.le_refl _, ⟨h1, h2⟩⟩
  case round =>
    clear S0
    obtain ⟨i, vf0, S, F, cnt, D, rfl, hi, hcnt, H1⟩ := hrel
    by_cases ci : i < gs.length
    · obtain ⟨ad, rfl, hg0⟩ := HO.out.1 i ci
      have hwf := HO.out.2 i ci
      obtain ⟨g, eg⟩ : ∃ g, g = gs.getD i 0 := ⟨_, rfl⟩
      rw [← eg] at hg0 hwf
      have HG : Aside0 (∀ W, Below w.heap.size w W → W.cell? (ad.add i) = some (.int .i64 g)) := ⟨fun W hW => (hW.cell (World.block_lt_of_cell? w _ hg0)).trans hg0⟩
      have hkey : keyOf Try.prog 3 (.int .i64 g) = some (.int .i64 g) := keyOf_int_mk Try.underlying3 hwf
      have hg1 := HG.out _ H1.out.2
      have z1 : decide ((i : Int) < (gs.length : Int)) = true := decide_eq_true (by omega)
      have z3 : 0 ≤ (i : Int) := by omega
      have z4 : (i : Int) < (gs.length : Int) := by omega
      have CI := Go.Lib.hid ci
      have z5 : wrap64 ((i : Int) + 1) = ((i + 1 : Nat) : Int) := by have := HL.out; unfold wrap64; omega
      clear eg hg0 hwf ci
      have hown := H1.out.1.1.own
      have hmsz := H1.out.1.2.size
      have hmlen := H1.out.1.1.len
      rcases list_last F with rfl | ⟨F', fi, rfl⟩
      · have hsz : Maps.size D = n := by rw [List.length_nil] at hmsz; omega
        have hsz2 : ((Maps.size D : Int) == (n : Int)) = true := by rw [hsz]; simp
        clear hmsz hmlen hsz
        cases cg : hasL S g with
        | true =>
          obtain ⟨c0, c1, c2⟩ := hasL_in cg
          obtain ⟨k, rfl⟩ : ∃ k : Nat, g = (k : Int) := ⟨g.toNat, by omega⟩
          rw [Int.toNat_natCast] at c2
          have hhas : Maps.has D (.int .i64 (k : Int)) = true := (H1.out.1.2.has _).trans cg
          have hkl : k < S.length := by omega
          have hat0 := H1.out.1.2.at_ k hkl c2 (.lit (.int .i64 0))
          have hgv := H1.out.1.1.give k hkl c2
          have HD := Aside0.mk (fun F' hF' => H1.out.1.2.del (F' := F') k hkl c2 hF')
          obtain ⟨v, ev⟩ : ∃ v, v = (S.getD k (false, 0)).2 := ⟨_, rfl⟩
          rw [← ev] at hat0 hgv
          have HGV := Aside0.mk hgv
          clear ev c0 c1 c2 cg hgv hkl
          go_wp2_with (first
            | (go_at_call 18; refine (take_none H1.out.1.1.pool (i : Int)).mono ?_; rintro e w9 ⟨rfl, h9⟩; have h8 := h9.symm; subst h8; clear h9)
            | (go_at_call 19; refine HGV.out.mono ?_; rintro e w2 ⟨vf2, F2, rfl, hP2, hF2, hB2⟩; have H2 := Aside0.mk (And.intro hP2 (HD.out F2 hF2)); have HB2 := Aside0.mk (H1.out.2.trans hB2); have hm2 := hP2.own; have hg2 := HG.out w2 HB2.out; clear hP2 hF2 hB2 hat0)
            | (at_delete; refine wpList_delete_own _ rfl _ _ 48 3 rfl 3 keyed_int Try.underlying48 _ w1.heap.size _ _ rfl hm2 _ _ rfl hkey ?_; intro w3 hm3 ht3; have H3 := Aside0.mk (And.intro (H2.out.1.turn ht3.grown hm3) H2.out.2); have HB3 := Aside0.mk (HB2.out.grown ht3.grown HB2.out.size (fun j hj => by cases hj; exact HSZ.out)); have hleft := H3.out.1.left H3.out.2; clear hown hm2 ht3)
            | (go_at_call 20; refine (H3.out.1.used H3.out.2).mono ?_; rintro e w4 ⟨rfl, q, rfl⟩; have hm4 : (w3.drewN q).ownsMap Try.prog 3 (plainElem Try.prog 3) w1.heap.size _ _ := own_same hm3 rfl; have hlen4 := hm4.len (t := 48) Try.underlying48 3; clear hm3; have HP4 := Aside0.mk (H3.out.1.pool.kept (pw_below_drewN (Below.refl _ w3) q)))
            | (go_at_call 21; refine (free_calls HP4.out).mono ?_; rintro e w9 ⟨rfl, h9⟩; have h8 := h9.symm; subst h8; clear h9)
            | (at_len; refine wpList_len_own _ rfl _ 48 rfl 3 3 Try.underlying48 _ w1.heap.size _ _ rfl hm4 ?_)
            | (at_len; refine wpList_len_own _ rfl _ 48 rfl 3 3 Try.underlying48 _ w1.heap.size _ _ rfl hown ?_)
            | (at_lookup; refine wpList_lookup_own_ok_int _ rfl _ _ 48 rfl 3 3 .i64 keyed_int Try.underlying48 Try.underlying3 (zero_int _) w1.heap.size _ _ rfl hown _ _ rfl hkey ?_; intro c hat hwc; rw [hat0] at hat; (have hcv : c = v := (by injection hat with hat; injection hat with _ hat; exact hat.symm)); subst hcv; clear hat hwc))
          go_roundg (gs.length - i)
          case measure => have := hi.2; have := CI.out; omega
          case rel => exact ⟨i + 1, vf2, _, F2, _, _, congrArg (Value.int .i64) z5, ⟨CI.out, by have := CI.out; omega⟩, Nat.le_trans hcnt (Nat.le_succ i), ⟨⟨⟨HP4.out, H3.out.1.roomy, H3.out.1.free, H3.out.1.len, H3.out.1.big, hm4, H3.out.1.hmb⟩, H3.out.2⟩, pw_below_drewN HB3.out q⟩⟩
        | false =>
          have hhas : Maps.has D (.int .i64 g) = false := (H1.out.1.2.has _).trans cg
          have hat0 := atKey_of_not_has hhas (.lit (.int .i64 0))
          have CG := Aside0.mk cg
          clear cg
          go_wp2_with (first
            | (go_at_call 18; refine (take_none H1.out.1.1.pool (i : Int)).mono ?_; rintro e w9 ⟨rfl, h9⟩; have h8 := h9.symm; subst h8; clear h9)
            | (go_at_call 19; refine (give_no H1.out.1.1.pool g CG.out).mono ?_; rintro e w9 ⟨rfl, h9⟩; have h8 := h9.symm; subst h8; clear h9)
            | (at_delete; refine wpList_delete_own _ rfl _ _ 48 3 rfl 3 keyed_int Try.underlying48 _ w1.heap.size _ _ rfl hown _ _ rfl hkey ?_; intro w3 hm3 ht3; have H3 := Aside0.mk (And.intro (H1.out.1.1.turn ht3.grown hm3) (H1.out.1.2.del_no g CG.out)); have HB3 := Aside0.mk (H1.out.2.grown ht3.grown H1.out.2.size (fun j hj => by cases hj; exact HSZ.out)); have hleft := H3.out.1.left H3.out.2; clear hown ht3)
            | (go_at_call 20; refine (H3.out.1.used H3.out.2).mono ?_; rintro e w4 ⟨rfl, q, rfl⟩; have hm4 : (w3.drewN q).ownsMap Try.prog 3 (plainElem Try.prog 3) w1.heap.size _ _ := own_same hm3 rfl; have hlen4 := hm4.len (t := 48) Try.underlying48 3; clear hm3; have HP4 := Aside0.mk (H3.out.1.pool.kept (pw_below_drewN (Below.refl _ w3) q)))
            | (go_at_call 21; refine (free_calls HP4.out).mono ?_; rintro e w9 ⟨rfl, h9⟩; have h8 := h9.symm; subst h8; clear h9)
            | (at_len; refine wpList_len_own _ rfl _ 48 rfl 3 3 Try.underlying48 _ w1.heap.size _ _ rfl hm4 ?_)
            | (at_len; refine wpList_len_own _ rfl _ 48 rfl 3 3 Try.underlying48 _ w1.heap.size _ _ rfl hown ?_)
            | (at_lookup; refine wpList_lookup_own_ok_int _ rfl _ _ 48 rfl 3 3 .i64 keyed_int Try.underlying48 Try.underlying3 (zero_int _) w1.heap.size _ _ rfl hown _ _ rfl hkey ?_; intro c hat hwc; rw [hat0] at hat; (have hcv : c = 0 := (by injection hat with hat; injection hat with _ hat; exact hat.symm)); subst hcv; clear hat hwc))
          go_roundg (gs.length - i)
          case measure => have := hi.2; have := CI.out; omega
          case rel => exact ⟨i + 1, _, _, _, _, _, congrArg (Value.int .i64) z5, ⟨CI.out, by have := CI.out; omega⟩, Nat.le_trans hcnt (Nat.le_succ i), ⟨⟨⟨HP4.out, H3.out.1.roomy, H3.out.1.free, H3.out.1.len, H3.out.1.big, hm4, H3.out.1.hmb⟩, H3.out.2⟩, pw_below_drewN HB3.out q⟩⟩
      · have hsz : Maps.size D + F'.length + 1 = n := by rw [List.length_append, List.length_singleton] at hmsz; omega
        have hsz2 : ((Maps.size D : Int) == (n : Int)) = false := beq_eq_false_iff_ne.2 (by omega)
        clear hmsz hmlen hsz
        go_wp2_with (first
          | (go_at_call 18; refine (H1.out.1.1.take (i : Int)).mono ?_; rintro e w2 ⟨m, vf1, rfl, hm1, hm2, hm3, hP1, hB1⟩; have H2 := Aside0.mk (And.intro hP1 (H1.out.2.trans hB1)); have hkm : keyOf Try.prog 3 (.int .i64 (m : Int)) = some (.int .i64 (m : Int)) := keyOf_int_mk Try.underlying3 (WalkArith.wf_i64 (by have := H1.out.1.1.len; have := HN.out; omega)); have HM := Aside0.mk (And.intro hm1 (And.intro hm2 hm3)); have hown2 := hP1.own; have hhm : Maps.has D (.int .i64 (m : Int)) = false := (H1.out.1.2.has _).trans ((hasL_nat S m hm1).trans hm2); have k1 : ¬ ((m : Int) < 0) := (by omega); have k2 : ¬ ((m : Int) ≥ (n : Int)) := (by have := H1.out.1.1.len; omega); clear hown hP1 hB1 hm1 hm2 hm3)
          | (at_len; refine wpList_len_own _ rfl _ 48 rfl 3 3 Try.underlying48 _ w1.heap.size _ _ rfl hown2 ?_)
          | (at_lookup; refine wpList_lookup_own_ok_int _ rfl _ _ 48 rfl 3 3 .i64 keyed_int Try.underlying48 Try.underlying3 (zero_int _) w1.heap.size _ _ rfl hown2 _ _ rfl hkm ?_; intro c5 hat hwc; clear hat hwc))
        go_loopg [15] (m + 1) (fun kx s15 wq => ∃ kk : Nat, s15 = .int .i64 (kk : Int) ∧ Hid (kk ≤ m ∧ m < kk + kx) ∧ wq = w2)
        case atStart => exact ⟨0, rfl, ⟨Nat.zero_le _, by omega⟩, rfl⟩
        case round =>
          obtain ⟨kk, rfl, hkk, rfl⟩ := hrel
          by_cases ck : kk < m
          · have hmS := HM.out.1
            have hSn := H1.out.1.1.len
            have hn2 := HN.out
            have hkq : keyOf Try.prog 3 (.int .i64 (kk : Int)) = some (.int .i64 (kk : Int)) := keyOf_int_mk Try.underlying3 (WalkArith.wf_i64 (by omega))
            have hhq : Maps.has D (.int .i64 (kk : Int)) = true := (H1.out.1.2.has _).trans ((hasL_nat S kk (by omega)).trans (HM.out.2.2 kk ck))
            have y1 : decide ((kk : Int) < (m : Int)) = true := decide_eq_true (by omega)
            have y5 : wrap64 ((kk : Int) + 1) = ((kk + 1 : Nat) : Int) := by unfold wrap64; omega
            have CK := Go.Lib.hid ck
            clear ck hmS hSn hn2
            go_wp2_with (at_lookup; refine wpList_lookup_own_ok_int _ rfl _ _ 48 rfl 3 3 .i64 keyed_int Try.underlying48 Try.underlying3 (zero_int _) w1.heap.size _ _ rfl hown2 _ _ rfl hkq ?_; intro c6 hat hwc; clear hat hwc)
            go_roundg (m - kk)
            case measure => have := hkk.2; have := CK.out; omega
            case rel => exact ⟨kk + 1, congrArg (Value.int .i64) y5, ⟨CK.out, by have := CK.out; omega⟩, rfl⟩
          · have y1 : decide ((kk : Int) < (m : Int)) = false := decide_eq_false (by omega)
            have y2 : decide (kk < m) = false := decide_eq_false ck
            obtain ⟨S1, hS1⟩ : ∃ S1, S1 = S.set m (true, (i : Int)) := ⟨_, rfl⟩
            obtain ⟨D1, hD1⟩ : ∃ D1, D1 = D.put (.int .i64 (m : Int)) (.lit (.int .i64 (i : Int))) := ⟨_, rfl⟩
            have M1 : Aside0 (MapIs S1 F' D1) := ⟨by rw [hS1, hD1]; exact H1.out.1.2.put m HM.out.1 HM.out.2.1 (by rw [List.length_append, List.length_singleton]) _⟩
            rw [← hS1] at H2
            have HD1 := Aside0.mk hD1
            clear hS1 hD1 ck
            cases cg : hasL S1 g with
            | true =>
              obtain ⟨c0, c1, c2⟩ := hasL_in cg
              obtain ⟨k, rfl⟩ : ∃ k : Nat, g = (k : Int) := ⟨g.toNat, by omega⟩
              rw [Int.toNat_natCast] at c2
              have hhas : Maps.has D1 (.int .i64 (k : Int)) = true := (M1.out.has _).trans cg
              have hkl : k < S1.length := by omega
              have hat0 := M1.out.at_ k hkl c2 (.lit (.int .i64 0))
              have hgv : Aside0 (∀ (W : World) (vfa : Value) (ca : Nat), Part w.heap.size W n b vs vfa S1 F' w1.heap.size ca D1 → Calls Try.prog 19 #[.pointer (some ⟨b, 0, none⟩), .int .i64 (k : Int)] W fun e w' => ∃ vf' F2, e = .returned (.tuple #[.int .i64 (S1.getD k (false, 0)).2, .int .i64 0]) ∧ Part w.heap.size w' n b vs vf' (S1.set k (false, 0)) F2 w1.heap.size ca D1 ∧ F2.length = F'.length + 1 ∧ Below w.heap.size W w') := ⟨fun W vfa ca h => h.give k hkl c2⟩
              have HD := Aside0.mk (fun F' hF' => M1.out.del (F' := F') k hkl c2 hF')
              obtain ⟨v, ev⟩ : ∃ v, v = (S1.getD k (false, 0)).2 := ⟨_, rfl⟩
              rw [← ev] at hat0 hgv
              clear ev c0 c1 c2 cg hkl
              go_wp2_with (first
                | (at_mapUpdate; refine wpList_mapUpdate_own _ rfl _ _ _ 48 rfl 3 3 keyed_int Try.underlying48 _ w1.heap.size _ _ rfl hown2 (by have h1 : cnt ≤ i := hcnt; have := CI.out; have := HL.out; unfold maxLen; omega) _ _ _ rfl rfl hkm _ [] (plainElem_int Try.underlying3 (WalkArith.wf_i64 (by have := CI.out; have := HL.out; omega))) ?_; intro w5 hown hgrow5; rw [← HD1.out] at hown; have H5 := Aside0.mk (And.intro (H2.out.1.turn hgrow5 hown) (H2.out.2.grown hgrow5 H2.out.2.size (fun j hj => by cases hj; exact HSZ.out))); have hg5 := HG.out w5 H5.out.2; clear hown2 hgrow5)
                | (go_at_call 19; refine (hgv.out _ _ _ H5.out.1).mono ?_; rintro e w2 ⟨vf2, F2, rfl, hP2, hF2, hB2⟩; have H2 := Aside0.mk (And.intro hP2 (HD.out F2 hF2)); have HB2 := Aside0.mk (H5.out.2.trans hB2); have hm2 := hP2.own; have hg2 := HG.out w2 HB2.out; clear hP2 hF2 hB2 hat0)
                | (at_delete; refine wpList_delete_own _ rfl _ _ 48 3 rfl 3 keyed_int Try.underlying48 _ w1.heap.size _ _ rfl hm2 _ _ rfl hkey ?_; intro w3 hm3 ht3; have H3 := Aside0.mk (And.intro (H2.out.1.turn ht3.grown hm3) H2.out.2); have HB3 := Aside0.mk (HB2.out.grown ht3.grown HB2.out.size (fun j hj => by cases hj; exact HSZ.out)); have hleft := H3.out.1.left H3.out.2; clear hown hm2 ht3)
                | (go_at_call 20; refine (H3.out.1.used H3.out.2).mono ?_; rintro e w4 ⟨rfl, q, rfl⟩; have hm4 : (w3.drewN q).ownsMap Try.prog 3 (plainElem Try.prog 3) w1.heap.size _ _ := own_same hm3 rfl; have hlen4 := hm4.len (t := 48) Try.underlying48 3; clear hm3; have HP4 := Aside0.mk (H3.out.1.pool.kept (pw_below_drewN (Below.refl _ w3) q)))
                | (go_at_call 21; refine (free_calls HP4.out).mono ?_; rintro e w9 ⟨rfl, h9⟩; have h8 := h9.symm; subst h8; clear h9)
                | (at_len; refine wpList_len_own _ rfl _ 48 rfl 3 3 Try.underlying48 _ w1.heap.size _ _ rfl hm4 ?_)
                | (at_len; refine wpList_len_own _ rfl _ 48 rfl 3 3 Try.underlying48 _ w1.heap.size _ _ rfl hown ?_)
                | (at_lookup; refine wpList_lookup_own_ok_int _ rfl _ _ 48 rfl 3 3 .i64 keyed_int Try.underlying48 Try.underlying3 (zero_int _) w1.heap.size _ _ rfl hown _ _ rfl hkey ?_; intro c hat hwc; rw [hat0] at hat; (have hcv : c = v := (by injection hat with hat; injection hat with _ hat; exact hat.symm)); subst hcv; clear hat hwc))
              go_roundg (gs.length - i)
              case measure => have := hi.2; have := CI.out; omega
              case rel => exact ⟨i + 1, vf2, _, F2, _, _, congrArg (Value.int .i64) z5, ⟨CI.out, by have := CI.out; omega⟩, Nat.succ_le_succ hcnt, ⟨⟨⟨HP4.out, H3.out.1.roomy, H3.out.1.free, H3.out.1.len, H3.out.1.big, hm4, H3.out.1.hmb⟩, H3.out.2⟩, pw_below_drewN HB3.out q⟩⟩
            | false =>
              have hhas : Maps.has D1 (.int .i64 g) = false := (M1.out.has _).trans cg
              have hat0 := atKey_of_not_has hhas (.lit (.int .i64 0))
              have CG := Aside0.mk cg
              clear cg
              go_wp2_with (first
                | (at_mapUpdate; refine wpList_mapUpdate_own _ rfl _ _ _ 48 rfl 3 3 keyed_int Try.underlying48 _ w1.heap.size _ _ rfl hown2 (by have h1 : cnt ≤ i := hcnt; have := CI.out; have := HL.out; unfold maxLen; omega) _ _ _ rfl rfl hkm _ [] (plainElem_int Try.underlying3 (WalkArith.wf_i64 (by have := CI.out; have := HL.out; omega))) ?_; intro w5 hown hgrow5; rw [← HD1.out] at hown; have H5 := Aside0.mk (And.intro (H2.out.1.turn hgrow5 hown) (H2.out.2.grown hgrow5 H2.out.2.size (fun j hj => by cases hj; exact HSZ.out))); have hg5 := HG.out w5 H5.out.2; clear hown2 hgrow5)
                | (go_at_call 19; refine (give_no H5.out.1.pool g CG.out).mono ?_; rintro e w9 ⟨rfl, h9⟩; have h8 := h9.symm; subst h8; clear h9)
                | (at_delete; refine wpList_delete_own _ rfl _ _ 48 3 rfl 3 keyed_int Try.underlying48 _ w1.heap.size _ _ rfl hown _ _ rfl hkey ?_; intro w3 hm3 ht3; have H3 := Aside0.mk (And.intro (H5.out.1.turn ht3.grown hm3) (M1.out.del_no g CG.out)); have HB3 := Aside0.mk (H5.out.2.grown ht3.grown H5.out.2.size (fun j hj => by cases hj; exact HSZ.out)); have hleft := H3.out.1.left H3.out.2; clear hown ht3)
                | (go_at_call 20; refine (H3.out.1.used H3.out.2).mono ?_; rintro e w4 ⟨rfl, q, rfl⟩; have hm4 : (w3.drewN q).ownsMap Try.prog 3 (plainElem Try.prog 3) w1.heap.size _ _ := own_same hm3 rfl; have hlen4 := hm4.len (t := 48) Try.underlying48 3; clear hm3; have HP4 := Aside0.mk (H3.out.1.pool.kept (pw_below_drewN (Below.refl _ w3) q)))
                | (go_at_call 21; refine (free_calls HP4.out).mono ?_; rintro e w9 ⟨rfl, h9⟩; have h8 := h9.symm; subst h8; clear h9)
                | (at_len; refine wpList_len_own _ rfl _ 48 rfl 3 3 Try.underlying48 _ w1.heap.size _ _ rfl hm4 ?_)
                | (at_len; refine wpList_len_own _ rfl _ 48 rfl 3 3 Try.underlying48 _ w1.heap.size _ _ rfl hown ?_)
                | (at_lookup; refine wpList_lookup_own_ok_int _ rfl _ _ 48 rfl 3 3 .i64 keyed_int Try.underlying48 Try.underlying3 (zero_int _) w1.heap.size _ _ rfl hown _ _ rfl hkey ?_; intro c hat hwc; rw [hat0] at hat; (have hcv : c = 0 := (by injection hat with hat; injection hat with _ hat; exact hat.symm)); subst hcv; clear hat hwc))
              go_roundg (gs.length - i)
              case measure => have := hi.2; have := CI.out; omega
              case rel => exact ⟨i + 1, _, _, _, _, _, congrArg (Value.int .i64) z5, ⟨CI.out, by have := CI.out; omega⟩, Nat.succ_le_succ hcnt, ⟨⟨⟨HP4.out, H3.out.1.roomy, H3.out.1.free, H3.out.1.len, H3.out.1.big, hm4, H3.out.1.hmb⟩, H3.out.2⟩, pw_below_drewN HB3.out q⟩⟩
    · have z1 : decide ((i : Int) < (gs.length : Int)) = false := decide_eq_false (by omega)
      have z2 : decide (i < gs.length) = false := decide_eq_false ci
      clear ci
      go_wp2
      go_ret
      exact ⟨rfl, H1.out.2⟩
set_option maxRecDepth 100000 in
set_option maxHeartbeats 1000000 in
theorem least_no (n : Int) (hn : n < 1 ∨ 65536 < n) (v : Value) (w : World) :
    Calls Try.prog 4 #[.int .i64 n, v] w fun e w' => e = .returned (.bool true) ∧ Below w.heap.size w w' := by
  have hb := begun_no w n hn
  clear hn
  go_enter Try.func4, Try.ntmps4
  go_wp2_with (go_at_call 17; refine hb.mono ?_; rintro e w1 ⟨lv, rfl, hB1⟩; have H1 := Aside0.mk hB1; clear hB1 hb)
  go_ret
  exact ⟨rfl, H1.out⟩
theorem least_calls (n : Int) (A : Option Addr) (c : Nat) (gs : List Int) (w : World) (hr : Kd.C (Kd.int .i64) w A gs.length gs) (hwf : ∀ x ∈ gs, (Lit.int .i64 x).wf = true) (hl : gs.length ≤ 17592186044415) :
    Calls Try.prog 4 #[.int .i64 n, .slice A gs.length c] w fun e w' => e = .returned (.bool true) ∧ Below w.heap.size w w' := by
  by_cases h : 1 ≤ n ∧ n ≤ 65536
  · obtain ⟨k, rfl⟩ : ∃ k : Nat, n = (k : Int) := ⟨n.toNat, by omega⟩
    refine least_yes k (by omega) A c gs w (fun j hj => ?_) (fun j hj => ?_) hl
    · obtain ⟨ad, c, e, _, hK, hc0⟩ := Kd.C_get hr 0 (j : Int) (by omega) (by omega)
      have hK' : c = [.int .i64 (gs.getD j 0)] := by rw [Int.toNat_natCast] at hK; exact hK
      subst hK'
      have h := hc0 0 _ rfl
      rw [Int.toNat_natCast] at h
      exact ⟨ad, e, by rw [show j * (Kd.int .i64).sz + 0 = j by show j * 1 + 0 = j; omega] at h; exact h⟩
    · refine hwf _ ?_
      rw [List.getD_eq_getElem?_getD, List.getElem?_eq_getElem hj]
      exact List.getElem_mem hj
  · exact least_no n (by omega) _ w
end Go.Proofs.Ytmcmkdpidppcaaa.St
