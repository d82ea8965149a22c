/- step, further on: Get, Set, the counts, All. -/
import Derived.Test.YtmcmkdpidppcaaaPurePool5
import Derived.Test.YtmcmkdpidppcaaaPoolI
namespace Go.Proofs.Ytmcmkdpidppcaaa.St
open Go.Proofs Go.RowKit Go.Proofs.YtmcmkdpidppcaaaW.PrintWords Go.Proofs.YtmcmkdpidppcaaaW.PrintLast Go.Proofs.YtmcmkdpidppcaaaW.PrintMore Go.Proofs.Ytmcmkdpidppcaaa.A Go.Proofs.Ytmcmkdpidppcaaa.Pure
set_option maxRecDepth 100000 in
set_option maxHeartbeats 4000000 in
theorem step_get {w0 W : World} {n b : Nat} {vs vf lv : Value} {L : List S66} (h : Duo w0 W n b vs vf lv L) (hB : Below w0.heap.size w0 W) (kind place v : Int) (hm : ((wrap64 (kind.tmod 6 + 6)).tmod 6 == 0) = false) (hm1 : ((wrap64 (kind.tmod 6 + 6)).tmod 6 == 1) = false) (hm2 : ((wrap64 (kind.tmod 6 + 6)).tmod 6 == 2) = true) :
    Calls Try.prog 22 #[.pointer (some ⟨b, 0, none⟩), lv, .agg #[.int .i64 kind, .int .i64 place, .int .i64 v]] W (Stepped w0 W n b vs vf lv) := by
  obtain ⟨F, hp, hr, hf⟩ := h.pool
  have hkb := (Kept.refl W (fun _ => False)).alloc (.cells #[.int .i64 kind, .int .i64 place, .int .i64 v] 57)
  have hb := h.kept hkb (fun _ _ h => h)
  have hpb := hp.keptS hkb (fun _ _ h => h)
  have hBb := below_alloc hB (.cells #[.int .i64 kind, .int .i64 place, .int .i64 v] 57)
  have hx : (W.alloc (.cells #[.int .i64 kind, .int .i64 place, .int .i64 v] 57)).heap[W.heap.size]? = some (.cells #[.int .i64 kind, .int .i64 place, .int .i64 v] 57 (0, 0)) := heap_alloc_new W _
  have hnx : ¬ (lv.ownBlock = some W.heap.size) := fun e => by have := (h.area _ (.inr e)).2; omega
  have hSl := toS_len L
  have hbig := h.big
  have hlen := h.len
  have hsh := free_short hf (by omega)
  obtain ⟨A0, c0, rfl, hc0, hC⟩ := Kd.R_reads hb.row
  have HC := Aside0.mk (And.intro hc0 hC)
  clear hc0 hC
  obtain ⟨t, et⟩ : ∃ t, t = hasL (toS L) place := ⟨_, rfl⟩
  obtain ⟨x, ex⟩ : ∃ x, x = (if hasL (toS L) place then ((toS L).getD place.toNat (false, 0)).2 else 0) := ⟨_, rfl⟩
  have hk0 := get_ref L place
  rw [← ex, ← et] at hk0
  have hget : Aside0 (∀ w1, PoolAt w0.heap.size w1 b vs vf (toS L) F → Calls Try.prog 28 #[.pointer (some ⟨b, 0, none⟩), .int .i64 place] w1 fun e w' => e = .returned (.tuple #[.int .i64 x, .bool t]) ∧ w' = w1) := ⟨fun w1 hP => by rw [ex, et]; exact get_any hP place⟩
  clear ex et
  have HH := Aside0.mk (And.intro h hkb)
  have HX := Aside0.mk (And.intro hx hnx)
  have HP := Aside0.mk (And.intro (And.intro hpb hBb) (And.intro hb hf))
  have HR := Aside0.mk hr
  have HL := Go.Lib.hid hlen
  clear h hkb hx hnx hp hpb hf hr hB hb hBb hSl hbig hlen hsh
  go_enter Try.func22, Try.ntmps22
  go_wp2_with (first
    | (go_at_call 40; refine (r05_Get.calls A0 c0 L place _ _ _ HC.out.2 HC.out.1 hk0).mono ?_; rintro e w1 ⟨rfl, hd⟩; have hK1 := Kept.of_below (S := fun k => (Value.slice A0 L.length c0).ownBlock = some k) hd.below; obtain ⟨o0, o1, o2⟩ := op_cells (blk_kept HX.out.1 hK1 HX.out.2); have HP1 := Aside0.mk (HP.out.1.1.keptS hK1 (fun k hf hl => HH.out.1.apart k hl hf)); have H1 := Aside0.mk (And.intro (And.intro (Kd.R_mono (Kd.R_below HP.out.2.1.row hd.below) (fun k hk => (Or.inl hk : (Value.slice A0 L.length c0).ownBlock = some k ∨ (W.alloc (.cells #[.int .i64 kind, .int .i64 place, .int .i64 v] 57)).heap.size ≤ k))) (HP.out.1.2.trans (hd.below.mono HP.out.1.2.size))) hK1); clear hd hK1)
    | (go_at_call 28; refine (hget.out _ HP1.out).mono ?_; rintro e w9 ⟨rfl, h9⟩; have h8 := h9.symm; subst h8; clear h9))
  go_ret2
  exact stepped_of HH.out.1 HH.out.2 H1.out.1.1 H1.out.2 H1.out.1.2 HP1.out HR.out HP.out.2.2 HL.out (Kept.refl _ _) rfl (Below.refl _ _)
set_option maxRecDepth 100000 in
set_option maxHeartbeats 4000000 in
theorem step_set {w0 W : World} {n b : Nat} {vs vf lv : Value} {L : List S66} (h : Duo w0 W n b vs vf lv L) (hB : Below w0.heap.size w0 W) (kind place v : Int) (hm : ((wrap64 (kind.tmod 6 + 6)).tmod 6 == 0) = false) (hm1 : ((wrap64 (kind.tmod 6 + 6)).tmod 6 == 1) = false) (hm2 : ((wrap64 (kind.tmod 6 + 6)).tmod 6 == 2) = false) (hm3 : ((wrap64 (kind.tmod 6 + 6)).tmod 6 == 3) = true) :
    Calls Try.prog 22 #[.pointer (some ⟨b, 0, none⟩), lv, .agg #[.int .i64 kind, .int .i64 place, .int .i64 v]] W (Stepped w0 W n b vs vf lv) := by
  obtain ⟨F, hp, hr, hf⟩ := h.pool
  have hkb := (Kept.refl W (fun _ => False)).alloc (.cells #[.int .i64 kind, .int .i64 place, .int .i64 v] 57)
  have hb := h.kept hkb (fun _ _ h => h)
  have hpb := hp.keptS hkb (fun _ _ h => h)
  have hBb := below_alloc hB (.cells #[.int .i64 kind, .int .i64 place, .int .i64 v] 57)
  have hx : (W.alloc (.cells #[.int .i64 kind, .int .i64 place, .int .i64 v] 57)).heap[W.heap.size]? = some (.cells #[.int .i64 kind, .int .i64 place, .int .i64 v] 57 (0, 0)) := heap_alloc_new W _
  have hnx : ¬ (lv.ownBlock = some W.heap.size) := fun e => by have := (h.area _ (.inr e)).2; omega
  have hSl := toS_len L
  have hbig := h.big
  have hlen := h.len
  have hsh := free_short hf (by omega)
  by_cases c : hasL (toS L) place = true
  · obtain ⟨c0, c1, c2⟩ := hasL_in c
    obtain ⟨m, rfl⟩ : ∃ m : Nat, place = (m : Int) := ⟨place.toNat, by omega⟩
    rw [Int.toNat_natCast] at c2
    have hk0 := set_yes_ref L m v (by omega) (by omega) c
    have hm5 : m < (toS L).length := by omega
    have HM := Aside0.mk (And.intro (And.intro hm5 c2) (hf.setTaken (v := v) hm5 c2))
    clear hm5 c2 c0 c1 c
    have HH := Aside0.mk (And.intro h hkb)
    have HX := Aside0.mk (And.intro hx hnx)
    have HP := Aside0.mk (And.intro (And.intro hpb hBb) (And.intro hb hf))
    have HR := Aside0.mk hr
    have HL := Go.Lib.hid hlen
    clear h hkb hx hnx hp hpb hf hr hB hb hBb hSl hbig hlen hsh
    go_enter Try.func22, Try.ntmps22
    go_wp2_with (first
      | (go_at_call 41; refine (r05_Set.calls (fun k => lv.ownBlock = some k) lv L (m : Int) v _ _ w0 _ HP.out.1.2 HP.out.2.1.row hk0).mono ?_; rintro e w1 ⟨lv1, rfl, hR1, hB1, hK1⟩; obtain ⟨o0, o1, o2⟩ := op_cells (blk_kept HX.out.1 hK1 HX.out.2); have HP1 := Aside0.mk (HP.out.1.1.keptS hK1 (fun k hf hl => HH.out.1.apart k hl hf)); have H1 := Aside0.mk (And.intro (And.intro hR1 hB1) hK1); clear hR1 hB1 hK1)
      | (go_at_call 27; refine (set_yes HP1.out m v HM.out.1.1 HM.out.1.2).mono ?_; rintro e w2 ⟨rfl, hP2, hB2, hK2⟩; have H2 := Aside0.mk (And.intro (And.intro hP2 hB2) hK2); clear hP2 hB2 hK2))
    go_ret2
    exact stepped_of HH.out.1 HH.out.2 H1.out.1.1 H1.out.2 H1.out.1.2 (by rw [toS_set]; exact H2.out.1.1) HR.out (by rw [toS_set]; exact HM.out.2) (by rw [List.length_set]; exact HL.out) H2.out.2 rfl H2.out.1.2
  · have c' : hasL (toS L) place = false := by simpa using c
    have hk0 := set_no_ref L place v c'
    have HM := Aside0.mk c'
    clear c c'
    have HH := Aside0.mk (And.intro h hkb)
    have HX := Aside0.mk (And.intro hx hnx)
    have HP := Aside0.mk (And.intro (And.intro hpb hBb) (And.intro hb hf))
    have HR := Aside0.mk hr
    have HL := Go.Lib.hid hlen
    clear h hkb hx hnx hp hpb hf hr hB hb hBb hSl hbig hlen hsh
    go_enter Try.func22, Try.ntmps22
    go_wp2_with (first
      | (go_at_call 41; refine (r05_Set.calls (fun k => lv.ownBlock = some k) lv L place v _ _ w0 _ HP.out.1.2 HP.out.2.1.row hk0).mono ?_; rintro e w1 ⟨lv1, rfl, hR1, hB1, hK1⟩; obtain ⟨o0, o1, o2⟩ := op_cells (blk_kept HX.out.1 hK1 HX.out.2); have HP1 := Aside0.mk (HP.out.1.1.keptS hK1 (fun k hf hl => HH.out.1.apart k hl hf)); have H1 := Aside0.mk (And.intro (And.intro hR1 hB1) hK1); clear hR1 hB1 hK1)
      | (go_at_call 27; refine (set_no HP1.out place v HM.out).mono ?_; rintro e w9 ⟨rfl, h9⟩; have h8 := h9.symm; subst h8; clear h9))
    go_ret2
    exact stepped_of HH.out.1 HH.out.2 H1.out.1.1 H1.out.2 H1.out.1.2 HP1.out HR.out HP.out.2.2 HL.out (Kept.refl _ _) rfl (Below.refl _ _)
end Go.Proofs.Ytmcmkdpidppcaaa.St
