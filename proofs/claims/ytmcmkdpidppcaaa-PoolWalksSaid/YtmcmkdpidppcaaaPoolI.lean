/- step: what is done to a pool and to the document's list: they stay alike. -/
import Derived.Test.YtmcmkdpidppcaaaPurePool3
import Derived.Test.YtmcmkdpidppcaaaPurePool4
import Derived.Test.YtmcmkdpidppcaaaPoolH
namespace Go.Proofs.Ytmcmkdpidppcaaa.St
open Go.Proofs Go.RowKit Go.Proofs.YtmcmkdpidppcaaaW.PrintWords Go.Proofs.YtmcmkdpidppcaaaW.PrintLast Go.Proofs.YtmcmkdpidppcaaaW.PrintMore Go.Proofs.Ytmcmkdpidppcaaa.A Go.Proofs.Ytmcmkdpidppcaaa.Pure
theorem PoolAt.keptS {n0 : Nat} {w w' : World} {b : Nat} {vs vf : Value} {S : List (Bool × Int)} {F : List Int} {P : Nat → Prop} (h : PoolAt n0 w b vs vf S F) (hk : Kept w w' P) (hP : ∀ k, Foot b vs vf k → ¬ P k) : PoolAt n0 w' b vs vf S F :=
  ⟨h.hb, (hk.2 b h.lt (hP b (.inl rfl))).trans h.blk, own_move h.slots (fun k e => hk.2 k (h.slots.lt k e).2 (hP k (.inr (.inl e)))), own_move h.free (fun k e => hk.2 k (h.free.lt k e).2 (hP k (.inr (.inr e)))), h.d1, h.d2, h.d3⟩
theorem PoolAt.foot {n0 : Nat} {w : World} {b : Nat} {vs vf : Value} {S : List (Bool × Int)} {F : List Int} (h : PoolAt n0 w b vs vf S F) (k : Nat) (hk : Foot b vs vf k) : n0 ≤ k ∧ k < w.heap.size := by
  rcases hk with rfl | hk | hk
  · exact ⟨h.hb, h.lt⟩
  · exact h.slots.lt k hk
  · exact h.free.lt k hk
theorem PoolAt.lower {n0 n1 : Nat} {w : World} {b : Nat} {vs vf : Value} {S : List (Bool × Int)} {F : List Int} (h : PoolAt n0 w b vs vf S F) (hn : n1 ≤ n0) : PoolAt n1 w b vs vf S F :=
  ⟨by have := h.hb; omega, h.blk, own_weaken h.slots hn, own_weaken h.free hn, h.d1, h.d2, h.d3⟩
/-- A pool and a list that say the same. -/
structure Duo (w0 W : World) (n b : Nat) (vs vf lv : Value) (L : List S66) : Prop where
  pool : ∃ F, PoolAt w0.heap.size W b vs vf (toS L) F ∧ Roomy vf n F.length ∧ FreeOf (toS L) F
  row : Kd.R k66 66 W w0.heap.size (fun k => lv.ownBlock = some k) lv L
  len : L.length = n
  big : 0 < n ∧ n ≤ 65536
  apart : ∀ k, lv.ownBlock = some k → ¬ Foot b vs vf k
/-- The blocks of both. -/
def Ar (b : Nat) (vs vf lv : Value) (k : Nat) : Prop := Foot b vs vf k ∨ lv.ownBlock = some k
theorem row_own {w : World} {base : Nat} {P : Nat → Prop} {v : Value} {L : List S66} (h : Kd.R k66 66 w base P v L) : Kd.R k66 66 w base (fun k => v.ownBlock = some k) v L :=
  Kd.R_flat (fun h => h) h (fun _ hk _ => hk)
theorem foot_same {b : Nat} {vs vf vf' : Value} (e : vf'.ownBlock = vf.ownBlock) (k : Nat) : Foot b vs vf' k ↔ Foot b vs vf k := by unfold Foot; rw [e]
section
variable {w0 W : World} {n b : Nat} {vs vf lv : Value} {L : List S66}
theorem Duo.area (h : Duo w0 W n b vs vf lv L) (k : Nat) (hk : Ar b vs vf lv k) : w0.heap.size ≤ k ∧ k < W.heap.size := by
  obtain ⟨F, hp, _, _⟩ := h.pool
  rcases hk with hk | hk
  · exact hp.foot k hk
  · obtain ⟨inner, ho⟩ := Kd.R_own h.row
    exact ho.lt k hk
theorem Duo.kept {W' : World} {P : Nat → Prop} (h : Duo w0 W n b vs vf lv L) (hk : Kept W W' P) (hP : ∀ k, Ar b vs vf lv k → ¬ P k) : Duo w0 W' n b vs vf lv L := by
  obtain ⟨F, hp, hr, hf⟩ := h.pool
  exact ⟨⟨F, hp.keptS hk (fun k h => hP k (.inl h)), hr, hf⟩, Kd.R_kept h.row hk (fun k h => hP k (.inr h)), h.len, h.big, h.apart⟩
end
/-- What a step comes to. -/
def Stepped (w0 W : World) (n b : Nat) (vs vf lv : Value) (e : Ending) (W' : World) : Prop :=
  ∃ lv' vf' L', e = .returned (.tuple #[lv', .bool true]) ∧ Duo w0 W' n b vs vf' lv' L' ∧ vf'.ownBlock = vf.ownBlock ∧ Kept W W' (Ar b vs vf lv) ∧ (∀ k, lv'.ownBlock = some k → lv.ownBlock = some k ∨ W.heap.size ≤ k) ∧ Below w0.heap.size w0 W'
theorem stepped_of {w0 W Wb W1 W2 : World} {n b : Nat} {vs vf vf2 lv lv1 : Value} {L L' : List S66} {F2 : List Int} (h : Duo w0 W n b vs vf lv L) (hkb : Kept W Wb (fun _ => False)) (hR1 : Kd.R k66 66 W1 w0.heap.size (fun k => lv.ownBlock = some k ∨ Wb.heap.size ≤ k) lv1 L') (hK1 : Kept Wb W1 (fun k => lv.ownBlock = some k)) (hB1 : Below w0.heap.size w0 W1)
    (hP : PoolAt w0.heap.size W2 b vs vf2 (toS L') F2) (hRo : Roomy vf2 n F2.length) (hf2 : FreeOf (toS L') F2) (hlen : L'.length = n) (hK2 : Kept W1 W2 (Foot b vs vf)) (hown : vf2.ownBlock = vf.ownBlock) (hB2 : Below w0.heap.size W1 W2) : Stepped w0 W n b vs vf lv (.returned (.tuple #[lv1, .bool true])) W2 := by
  have hsz : W.heap.size ≤ Wb.heap.size := hkb.1
  have hfar : ∀ k, (lv.ownBlock = some k ∨ Wb.heap.size ≤ k) → ¬ Foot b vs vf k := by
    rintro k (hk | hk) hfo
    · exact h.apart k hk hfo
    · have := (h.area k (.inl hfo)).2
      omega
  refine ⟨lv1, vf2, L', rfl, ⟨⟨F2, hP, hRo, hf2⟩, row_own (Kd.R_kept hR1 hK2 hfar), hlen, h.big, fun k hk hfo => hfar k (hR1.1 k hk) ((foot_same hown k).1 hfo)⟩, hown, ?_, ?_, hB1.trans hB2⟩
  · exact ((hkb.mono (S' := Ar b vs vf lv) (fun _ h => h.elim)).then_ hK1 (fun k hk => .inl (.inr hk))).then_ hK2 (fun k hk => .inl (.inl hk))
  · intro k hk
    rcases hR1.1 k hk with e | e
    · exact .inl e
    · exact .inr (by omega)
theorem op_cells {w : World} {x : Nat} {a b c : Value} (h : w.heap[x]? = some (.cells #[a, b, c] 57 (0, 0))) : w.cell? ⟨x, 0, none⟩ = some a ∧ w.cell? ⟨x, 1, none⟩ = some b ∧ w.cell? ⟨x, 2, none⟩ = some c := by
  refine ⟨?_, ?_, ?_⟩ <;> (rw [cell_of_row w x _ _ _ (0, 0) h]; rfl)
theorem free_short {S : List (Bool × Int)} {F : List Int} (hf : FreeOf S F) (hS : S.length ≤ 65536) : F.length ≤ S.length ∧ F.length ≤ 65536 := by
  have := hf.count
  omega
theorem list_last (F : List Int) : F = [] ∨ ∃ F' i, F = F' ++ [i] := by
  rcases List.eq_nil_or_concat F with h | ⟨a, b, h⟩
  · exact .inl h
  · exact .inr ⟨a, b, by rw [h, List.concat_eq_append]⟩
set_option maxRecDepth 100000 in
set_option maxHeartbeats 4000000 in
theorem step_take {w0 W : World} {n b : Nat} {vs vf lv : Value} {L : List S66} (h : Duo w0 W n b vs vf lv L) (hB : Below w0.heap.size w0 W) (kind place v : Int) (hm : ((wrap64 (kind.tmod 6 + 6)).tmod 6 == 0) = true) :
    Calls Try.prog 22 #[.pointer (some ⟨b, 0, none⟩), lv, .agg #[.int .i64 kind, .int .i64 place, .int .i64 v]] W (Stepped w0 W n b vs vf lv) := by
  obtain ⟨F, hp, hr, hf⟩ := h.pool
  have hkb := (Kept.refl W (fun _ => False)).alloc (.cells #[.int .i64 kind, .int .i64 place, .int .i64 v] 57)
  have hb := h.kept hkb (fun _ _ h => h)
  have hpb := hp.keptS hkb (fun _ _ h => h)
  have hBb := below_alloc hB (.cells #[.int .i64 kind, .int .i64 place, .int .i64 v] 57)
  have hx : (W.alloc (.cells #[.int .i64 kind, .int .i64 place, .int .i64 v] 57)).heap[W.heap.size]? = some (.cells #[.int .i64 kind, .int .i64 place, .int .i64 v] 57 (0, 0)) := heap_alloc_new W _
  have hnx : ¬ (lv.ownBlock = some W.heap.size) := fun e => by have := (h.area _ (.inr e)).2; omega
  have hSl := toS_len L
  have hbig := h.big
  have hlen := h.len
  have hsh := free_short hf (by omega)
  rcases list_last F with rfl | ⟨F', i, rfl⟩
  · obtain ⟨K, hK⟩ := take_full L v (by omega) (fun j hj => hf.full j (by omega)) L.length 0 (by omega) (Nat.zero_le _)
    have hk0 : r05_Take.f K L v = some (L, -1, 50) := hK K (Nat.le_refl _)
    have HH := Aside0.mk (And.intro h hkb)
    have HX := Aside0.mk (And.intro hx hnx)
    have HP := Aside0.mk (And.intro (And.intro hpb hBb) (And.intro hb hf))
    have HR := Aside0.mk hr
    have HL := Go.Lib.hid hlen
    clear h hkb hx hnx hp hpb hf hr hB hb hBb hSl hbig hlen hsh hK
    go_enter Try.func22, Try.ntmps22
    go_wp2_with (first
      | (go_at_call 38; refine (r05_Take.calls K (fun k => lv.ownBlock = some k) lv L v _ _ _ w0 _ HP.out.1.2 HP.out.2.1.row hk0).mono ?_; rintro e w1 ⟨lv1, rfl, hR1, hB1, hK1⟩; obtain ⟨o0, o1, o2⟩ := op_cells (blk_kept HX.out.1 hK1 HX.out.2); have HP1 := Aside0.mk (HP.out.1.1.keptS hK1 (fun k hf hl => HH.out.1.apart k hl hf)); have H1 := Aside0.mk (And.intro (And.intro hR1 hB1) hK1); clear hR1 hB1 hK1)
      | (go_at_call 18; refine (take_none HP1.out v).mono ?_; rintro e w9 ⟨rfl, h9⟩; have h8 := h9.symm; subst h8; clear h9))
    go_ret2
    exact stepped_of HH.out.1 HH.out.2 H1.out.1.1 H1.out.2 H1.out.1.2 HP1.out HR.out HP.out.2.2 HL.out (Kept.refl _ _) rfl (Below.refl _ _)
  · obtain ⟨m, rfl, hm1, hm2, hm3, hm4⟩ := hf.take (v := v)
    obtain ⟨K, hK⟩ := take_at L v (by omega) m (by omega) hm2 hm3 m 0 (by omega) (Nat.zero_le _)
    have hk0 : r05_Take.f K L v = some (L.set m ⟨true, v⟩, (m : Int), 0) := hK K (Nat.le_refl _)
    rw [List.length_append, List.length_singleton] at hr hsh
    have hFl : F'.length < 65536 := by omega
    have HM := Aside0.mk (And.intro (And.intro hm1 hFl) hm4)
    clear hm1 hm2 hm3 hm4 hK hFl
    have HH := Aside0.mk (And.intro h hkb)
    have HX := Aside0.mk (And.intro hx hnx)
    have HP := Aside0.mk (And.intro (And.intro hpb hBb) (And.intro hb hf))
    have HR := Aside0.mk hr
    have HL := Go.Lib.hid hlen
    clear h hkb hx hnx hp hpb hf hr hB hb hBb hSl hbig hlen hsh
    go_enter Try.func22, Try.ntmps22
    go_wp2_with (first
      | (go_at_call 38; refine (r05_Take.calls K (fun k => lv.ownBlock = some k) lv L v _ _ _ w0 _ HP.out.1.2 HP.out.2.1.row hk0).mono ?_; rintro e w1 ⟨lv1, rfl, hR1, hB1, hK1⟩; obtain ⟨o0, o1, o2⟩ := op_cells (blk_kept HX.out.1 hK1 HX.out.2); have HP1 := Aside0.mk (HP.out.1.1.keptS hK1 (fun k hf hl => HH.out.1.apart k hl hf)); have H1 := Aside0.mk (And.intro (And.intro hR1 hB1) hK1); clear hR1 hB1 hK1)
      | (go_at_call 18; refine (take_calls HP1.out HM.out.1.1 HM.out.1.2 v).mono ?_; rintro e w2 ⟨vf2, rfl, hP2, hB2, hRo, hK2, hown⟩; have H2 := Aside0.mk (And.intro (And.intro hP2 hB2) (And.intro hRo (And.intro hK2 hown))); clear hP2 hB2 hRo hK2 hown))
    go_ret2
    have hr := HR.out
    have hSl := toS_len L
    have hlen := HL.out
    have hRo := H2.out.2.1
    rw [hSl, hlen] at hRo
    exact stepped_of HH.out.1 HH.out.2 H1.out.1.1 H1.out.2 H1.out.1.2 (by rw [toS_set]; exact H2.out.1.1) (hRo hr) (by rw [toS_set]; exact HM.out.2) (by rw [List.length_set]; exact hlen) H2.out.2.2.1 H2.out.2.2.2 H2.out.1.2
set_option maxRecDepth 100000 in
set_option maxHeartbeats 4000000 in
theorem step_give {w0 W : World} {n b : Nat} {vs vf lv : Value} {L : List S66} (h : Duo w0 W n b vs vf lv L) (hB : Below w0.heap.size w0 W) (kind place v : Int) (hm : ((wrap64 (kind.tmod 6 + 6)).tmod 6 == 0) = false) (hm1 : ((wrap64 (kind.tmod 6 + 6)).tmod 6 == 1) = true) :
    Calls Try.prog 22 #[.pointer (some ⟨b, 0, none⟩), lv, .agg #[.int .i64 kind, .int .i64 place, .int .i64 v]] W (Stepped w0 W n b vs vf lv) := by
  obtain ⟨F, hp, hr, hf⟩ := h.pool
  have hkb := (Kept.refl W (fun _ => False)).alloc (.cells #[.int .i64 kind, .int .i64 place, .int .i64 v] 57)
  have hb := h.kept hkb (fun _ _ h => h)
  have hpb := hp.keptS hkb (fun _ _ h => h)
  have hBb := below_alloc hB (.cells #[.int .i64 kind, .int .i64 place, .int .i64 v] 57)
  have hx : (W.alloc (.cells #[.int .i64 kind, .int .i64 place, .int .i64 v] 57)).heap[W.heap.size]? = some (.cells #[.int .i64 kind, .int .i64 place, .int .i64 v] 57 (0, 0)) := heap_alloc_new W _
  have hnx : ¬ (lv.ownBlock = some W.heap.size) := fun e => by have := (h.area _ (.inr e)).2; omega
  have hSl := toS_len L
  have hbig := h.big
  have hlen := h.len
  have hsh := free_short hf (by omega)
  by_cases c : hasL (toS L) place = true
  · obtain ⟨c0, c1, c2⟩ := hasL_in c
    obtain ⟨m, rfl⟩ : ∃ m : Nat, place = (m : Int) := ⟨place.toNat, by omega⟩
    rw [Int.toNat_natCast] at c2
    have hk0 := give_yes_ref L m (by omega) (by omega) c
    have hcnt := hf.count
    have hFl : F.length < (toS L).length := by
      have hp0 : 0 < (takenTo (toS L) (toS L).length).length := List.length_pos_of_mem (a := ((m : Int), ((toS L).getD m (false, 0)).2)) (List.mem_map.2 ⟨m, List.mem_filter.2 ⟨List.mem_range.2 (by omega), c2⟩, rfl⟩)
      omega
    have hrS : Roomy vf (toS L).length F.length := by rw [hSl, hlen]; exact hr
    have hrg : ∀ j, j < F.length → 0 ≤ F.getD j 0 ∧ F.getD j 0 < 65536 := fun j hj => by have := hf.range j hj; omega
    have hm5 : m < (toS L).length := by omega
    have hm6 : (toS L).length ≤ 65536 := by omega
    have HM := Aside0.mk (And.intro (And.intro hm5 c2) (And.intro hm6 (And.intro hFl (And.intro hrg hrS))))
    clear hm5 hm6 c2 hFl hrg hrS hcnt c0 c1 c
    have HH := Aside0.mk (And.intro h hkb)
    have HX := Aside0.mk (And.intro hx hnx)
    have HP := Aside0.mk (And.intro (And.intro hpb hBb) (And.intro hb hf))
    have HR := Aside0.mk hr
    have HL := Go.Lib.hid hlen
    clear h hkb hx hnx hp hpb hf hr hB hb hBb hSl hbig hlen hsh
    go_enter Try.func22, Try.ntmps22
    go_wp2_with (first
      | (go_at_call 39; refine (r05_Give.calls (fun k => lv.ownBlock = some k) lv L (m : Int) _ _ _ w0 _ HP.out.1.2 HP.out.2.1.row hk0).mono ?_; rintro e w1 ⟨lv1, rfl, hR1, hB1, hK1⟩; obtain ⟨o0, o1, o2⟩ := op_cells (blk_kept HX.out.1 hK1 HX.out.2); have HP1 := Aside0.mk (HP.out.1.1.keptS hK1 (fun k hf hl => HH.out.1.apart k hl hf)); have H1 := Aside0.mk (And.intro (And.intro hR1 hB1) hK1); clear hR1 hB1 hK1)
      | (go_at_call 19; refine (give_yes HP1.out HM.out.2.2.2.2 m HM.out.1.1 HM.out.1.2 HM.out.2.1 HM.out.2.2.1 HM.out.2.2.2.1 HP.out.2.2.falls).mono ?_; rintro e w2 ⟨vf2, p, rfl, hp, hlo, hhi, hP2, hRo, hB2, hK2, hown⟩; have H2 := Aside0.mk (And.intro (And.intro hP2 hB2) (And.intro hRo (And.intro hK2 hown))); have H3 := Aside0.mk (HP.out.2.2.give HM.out.1.1 HM.out.1.2 hp hlo hhi); have H4 := Go.Lib.hid hp; clear hP2 hB2 hRo hK2 hown hp hlo hhi))
    go_ret2
    have hSl := toS_len L
    have hlen := HL.out
    have hRo := H2.out.2.1
    rw [hSl, hlen] at hRo
    refine stepped_of HH.out.1 HH.out.2 H1.out.1.1 H1.out.2 H1.out.1.2 (by rw [toS_set]; exact H2.out.1.1) ?_ (by rw [toS_set]; exact H3.out) (by rw [List.length_set]; exact hlen) H2.out.2.2.1 H2.out.2.2.2 H2.out.1.2
    have hp := H4.out
    have e : (F.take p ++ (m : Int) :: F.drop p).length = F.length + 1 := by rw [List.length_append, List.length_cons, List.length_take, List.length_drop]; omega
    rw [e]
    exact hRo
  · have c' : hasL (toS L) place = false := by simpa using c
    have hk0 := give_no_ref L place c'
    have HM := Aside0.mk c'
    clear c c'
    have HH := Aside0.mk (And.intro h hkb)
    have HX := Aside0.mk (And.intro hx hnx)
    have HP := Aside0.mk (And.intro (And.intro hpb hBb) (And.intro hb hf))
    have HR := Aside0.mk hr
    have HL := Go.Lib.hid hlen
    clear h hkb hx hnx hp hpb hf hr hB hb hBb hSl hbig hlen hsh
    go_enter Try.func22, Try.ntmps22
    go_wp2_with (first
      | (go_at_call 39; refine (r05_Give.calls (fun k => lv.ownBlock = some k) lv L place _ _ _ w0 _ HP.out.1.2 HP.out.2.1.row hk0).mono ?_; rintro e w1 ⟨lv1, rfl, hR1, hB1, hK1⟩; obtain ⟨o0, o1, o2⟩ := op_cells (blk_kept HX.out.1 hK1 HX.out.2); have HP1 := Aside0.mk (HP.out.1.1.keptS hK1 (fun k hf hl => HH.out.1.apart k hl hf)); have H1 := Aside0.mk (And.intro (And.intro hR1 hB1) hK1); clear hR1 hB1 hK1)
      | (go_at_call 19; refine (give_no HP1.out place HM.out).mono ?_; rintro e w9 ⟨rfl, h9⟩; have h8 := h9.symm; subst h8; clear h9))
    go_ret2
    exact stepped_of HH.out.1 HH.out.2 H1.out.1.1 H1.out.2 H1.out.1.2 HP1.out HR.out HP.out.2.2 HL.out (Kept.refl _ _) rfl (Below.refl _ _)
end Go.Proofs.Ytmcmkdpidppcaaa.St
