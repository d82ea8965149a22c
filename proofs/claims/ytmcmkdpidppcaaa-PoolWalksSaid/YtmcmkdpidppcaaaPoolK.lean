/- step, the last: the counts, All. -/
import Derived.Test.YtmcmkdpidppcaaaPoolJ
namespace Go.Proofs.Ytmcmkdpidppcaaa.St
open Go.Proofs Go.RowKit Go.Proofs.YtmcmkdpidppcaaaW.PrintWords Go.Proofs.YtmcmkdpidppcaaaW.PrintLast Go.Proofs.YtmcmkdpidppcaaaW.PrintMore Go.Proofs.Ytmcmkdpidppcaaa.A Go.Proofs.Ytmcmkdpidppcaaa.Pure
set_option maxRecDepth 100000 in
set_option maxHeartbeats 4000000 in
theorem step_count {w0 W : World} {n b : Nat} {vs vf lv : Value} {L : List S66} (h : Duo w0 W n b vs vf lv L) (hB : Below w0.heap.size w0 W) (kind place v : Int) (hm : ((wrap64 (kind.tmod 6 + 6)).tmod 6 == 0) = false) (hm1 : ((wrap64 (kind.tmod 6 + 6)).tmod 6 == 1) = false) (hm2 : ((wrap64 (kind.tmod 6 + 6)).tmod 6 == 2) = false) (hm3 : ((wrap64 (kind.tmod 6 + 6)).tmod 6 == 3) = false) (hm4 : ((wrap64 (kind.tmod 6 + 6)).tmod 6 == 4) = true) :
    Calls Try.prog 22 #[.pointer (some ⟨b, 0, none⟩), lv, .agg #[.int .i64 kind, .int .i64 place, .int .i64 v]] W (Stepped w0 W n b vs vf lv) := by
  obtain ⟨F, hp, hr, hf⟩ := h.pool
  have hkb := (Kept.refl W (fun _ => False)).alloc (.cells #[.int .i64 kind, .int .i64 place, .int .i64 v] 57)
  have hb := h.kept hkb (fun _ _ h => h)
  have hpb := hp.keptS hkb (fun _ _ h => h)
  have hBb := below_alloc hB (.cells #[.int .i64 kind, .int .i64 place, .int .i64 v] 57)
  have hx : (W.alloc (.cells #[.int .i64 kind, .int .i64 place, .int .i64 v] 57)).heap[W.heap.size]? = some (.cells #[.int .i64 kind, .int .i64 place, .int .i64 v] 57 (0, 0)) := heap_alloc_new W _
  have hnx : ¬ (lv.ownBlock = some W.heap.size) := fun e => by have := (h.area _ (.inr e)).2; omega
  have hSl := toS_len L
  have hbig := h.big
  have hlen := h.len
  have hsh := free_short hf (by omega)
  obtain ⟨A0, c0, rfl, hc0, hC⟩ := Kd.R_reads hb.row
  have HC := Aside0.mk (And.intro hc0 hC)
  clear hc0 hC
  obtain ⟨K, hK⟩ := used_ref L (by omega)
  have hk0 := hK K (Nat.le_refl _)
  have hcnt := hf.count
  obtain ⟨u, eu⟩ : ∃ u, u = (takenTo (toS L) L.length).length := ⟨_, rfl⟩
  rw [← eu] at hk0
  have hu : (((toS L).length : Int) - (F.length : Int)) = (u : Int) := by rw [hSl] at hcnt ⊢; rw [eu]; omega
  have hu2 : wrap64 ((L.length : Int) - (u : Int)) = (F.length : Int) := by rw [hSl] at hu; unfold wrap64; omega
  have hused : Aside0 (∀ w1, PoolAt w0.heap.size w1 b vs vf (toS L) F → Calls Try.prog 20 #[.pointer (some ⟨b, 0, none⟩)] w1 fun e w' => e = .returned (.int .i64 (u : Int)) ∧ ∃ k, w' = w1.drewN k) := ⟨fun w1 hP => by rw [← hu]; exact used_any hP (by omega) (by omega)⟩
  clear eu hu hcnt hK
  have HH := Aside0.mk (And.intro h hkb)
  have HX := Aside0.mk (And.intro hx hnx)
  have HP := Aside0.mk (And.intro (And.intro hpb hBb) (And.intro hb hf))
  have HR := Aside0.mk hr
  have HL := Go.Lib.hid hlen
  clear h hkb hx hnx hp hpb hf hr hB hb hBb hSl hbig hlen hsh
  go_enter Try.func22, Try.ntmps22
  go_wp2_with (first
    | (go_at_call 23; refine (r05_Used.calls K A0 c0 L _ _ HC.out.2 HC.out.1 hk0).mono ?_; rintro e w1 ⟨rfl, hd⟩; have hK1 := Kept.of_below (S := fun k => (Value.slice A0 L.length c0).ownBlock = some k) hd.below; obtain ⟨o0, o1, o2⟩ := op_cells (blk_kept HX.out.1 hK1 HX.out.2); have HP1 := Aside0.mk (HP.out.1.1.keptS hK1 (fun k hf hl => HH.out.1.apart k hl hf)); have H1 := Aside0.mk (And.intro (And.intro (Kd.R_mono (Kd.R_below HP.out.2.1.row hd.below) (fun k hk => (Or.inl hk : (Value.slice A0 L.length c0).ownBlock = some k ∨ (W.alloc (.cells #[.int .i64 kind, .int .i64 place, .int .i64 v] 57)).heap.size ≤ k))) (HP.out.1.2.trans (hd.below.mono HP.out.1.2.size))) hK1); clear hd hK1)
    | (go_at_call 20; refine (hused.out _ HP1.out).mono ?_; rintro e w2 ⟨rfl, q, rfl⟩; have HP2 := Aside0.mk (HP1.out.kept (pw_below_drewN (Below.refl _ _) q)))
    | (go_at_call 21; refine (free_calls HP2.out).mono ?_; rintro e w9 ⟨rfl, h9⟩; have h8 := h9.symm; subst h8; clear h9))
  go_ret2
  have hdr : Below w1.heap.size w1 (w1.drewN q) := pw_below_drewN (Below.refl _ _) q
  exact stepped_of HH.out.1 HH.out.2 H1.out.1.1 H1.out.2 H1.out.1.2 HP2.out HR.out HP.out.2.2 HL.out (Kept.of_below hdr _) rfl (hdr.mono H1.out.1.2.size)
set_option maxRecDepth 100000 in
set_option maxHeartbeats 4000000 in
theorem step_all {w0 W : World} {n b : Nat} {vs vf lv : Value} {L : List S66} (h : Duo w0 W n b vs vf lv L) (hB : Below w0.heap.size w0 W) (kind place v : Int) (hm : ((wrap64 (kind.tmod 6 + 6)).tmod 6 == 0) = false) (hm1 : ((wrap64 (kind.tmod 6 + 6)).tmod 6 == 1) = false) (hm2 : ((wrap64 (kind.tmod 6 + 6)).tmod 6 == 2) = false) (hm3 : ((wrap64 (kind.tmod 6 + 6)).tmod 6 == 3) = false) (hm4 : ((wrap64 (kind.tmod 6 + 6)).tmod 6 == 4) = false) :
    Calls Try.prog 22 #[.pointer (some ⟨b, 0, none⟩), lv, .agg #[.int .i64 kind, .int .i64 place, .int .i64 v]] W (Stepped w0 W n b vs vf lv) := by
  obtain ⟨F, hp, hr, hf⟩ := h.pool
  have hkb := (Kept.refl W (fun _ => False)).alloc (.cells #[.int .i64 kind, .int .i64 place, .int .i64 v] 57)
  have hb := h.kept hkb (fun _ _ h => h)
  have hpb := hp.keptS hkb (fun _ _ h => h)
  have hBb := below_alloc hB (.cells #[.int .i64 kind, .int .i64 place, .int .i64 v] 57)
  have hx : (W.alloc (.cells #[.int .i64 kind, .int .i64 place, .int .i64 v] 57)).heap[W.heap.size]? = some (.cells #[.int .i64 kind, .int .i64 place, .int .i64 v] 57 (0, 0)) := heap_alloc_new W _
  have hnx : ¬ (lv.ownBlock = some W.heap.size) := fun e => by have := (h.area _ (.inr e)).2; omega
  have hSl := toS_len L
  have hbig := h.big
  have hlen := h.len
  have hsh := free_short hf (by omega)
  obtain ⟨gl, c, rfl, hgb, hgl, hle, hcl⟩ := list_cells hb.row (by omega)
  have HW := Aside0.mk (whole_calls hpb (by omega) (by omega) gl c hgl hcl)
  clear hgb hgl hle hcl
  have HH := Aside0.mk (And.intro h hkb)
  have HX := Aside0.mk (And.intro hx hnx)
  have HP := Aside0.mk (And.intro (And.intro hpb hBb) (And.intro hb hf))
  have HR := Aside0.mk hr
  have HL := Go.Lib.hid hlen
  clear h hkb hx hnx hp hpb hf hr hB hb hBb hSl hbig hlen hsh
  go_enter Try.func22, Try.ntmps22
  go_wp2_with (go_at_call 24; refine HW.out.mono ?_; rintro e w2 ⟨rfl, hB2⟩; have H2 := Aside0.mk hB2; clear hB2)
  go_ret2
  have hB3 := H2.out.mono HP.out.1.2.size
  exact stepped_of HH.out.1 HH.out.2 (Kd.R_mono HP.out.2.1.row (fun k hk => (Or.inl hk : (Value.slice (some ⟨gl, 0, none⟩) (toS L).length c).ownBlock = some k ∨ (W.alloc (.cells #[.int .i64 kind, .int .i64 place, .int .i64 v] 57)).heap.size ≤ k))) (Kept.refl _ _) HP.out.1.2 (HP.out.1.1.keptS (Kept.of_below H2.out (fun _ => False)) (fun _ _ h => h)) HR.out HP.out.2.2 HL.out (Kept.of_below H2.out _) rfl hB3
end Go.Proofs.Ytmcmkdpidppcaaa.St
