/- step as one contract; begun. -/
import Derived.Test.YtmcmkdpidppcaaaPoolK
namespace Go.Proofs.Ytmcmkdpidppcaaa.St
open Go.Proofs Go.RowKit Go.Proofs.YtmcmkdpidppcaaaW.PrintWords Go.Proofs.YtmcmkdpidppcaaaW.PrintLast Go.Proofs.YtmcmkdpidppcaaaW.PrintMore Go.Proofs.Ytmcmkdpidppcaaa.A Go.Proofs.Ytmcmkdpidppcaaa.Pure
theorem step_calls {w0 W : World} {n b : Nat} {vs vf lv : Value} {L : List S66} (h : Duo w0 W n b vs vf lv L) (hB : Below w0.heap.size w0 W) (kind place v : Int) :
    Calls Try.prog 22 #[.pointer (some ⟨b, 0, none⟩), lv, .agg #[.int .i64 kind, .int .i64 place, .int .i64 v]] W (Stepped w0 W n b vs vf lv) := by
  cases h0 : ((wrap64 (kind.tmod 6 + 6)).tmod 6 == 0) with
  | true => exact step_take h hB kind place v h0
  | false =>
    cases h1 : ((wrap64 (kind.tmod 6 + 6)).tmod 6 == 1) with
    | true => exact step_give h hB kind place v h0 h1
    | false =>
      cases h2 : ((wrap64 (kind.tmod 6 + 6)).tmod 6 == 2) with
      | true => exact step_get h hB kind place v h0 h1 h2
      | false =>
        cases h3 : ((wrap64 (kind.tmod 6 + 6)).tmod 6 == 3) with
        | true => exact step_set h hB kind place v h0 h1 h2 h3
        | false =>
          cases h4 : ((wrap64 (kind.tmod 6 + 6)).tmod 6 == 4) with
          | true => exact step_count h hB kind place v h0 h1 h2 h3 h4
          | false => exact step_all h hB kind place v h0 h1 h2 h3 h4
theorem results_tmp4 {fn : Func} {t u v x : Tmp} (h : fn.results = #[.tmp t, .tmp u, .tmp v, .tmp x]) (tmps : Array Value) (P : Program) (w : World) :
    (results fn tmps).run P w = .ok (.tuple #[tmps.getD t undef, tmps.getD u undef, tmps.getD v undef, tmps.getD x undef]) w := by
  simp [results, h]
theorem toS_new (n : Nat) : toS (List.replicate n ⟨false, 0⟩) = List.replicate n (false, 0) := by unfold toS; rw [List.map_replicate]
set_option maxRecDepth 100000 in
set_option maxHeartbeats 4000000 in
theorem begun_full {w0 W : World} (hB : Below w0.heap.size w0 W) (n : Nat) (hn : 1 ≤ n ∧ n ≤ 65536) : Calls Try.prog 17 #[.int .i64 (n : Int)] W fun e W' => ∃ b vs vf lv L, e = .returned (.tuple #[.pointer (some ⟨b, 0, none⟩), lv, .bool true, .bool true]) ∧ Duo w0 W' n b vs vf lv L ∧ Below W.heap.size W W' ∧ (∀ k, Ar b vs vf lv k → W.heap.size ≤ k) ∧ L = List.replicate n ⟨false, 0⟩ := by
  obtain ⟨K, hK⟩ := new_ref n hn
  have hk0 := hK K (Nat.le_refl _)
  have HN := Go.Lib.hid hn
  have HB := Aside0.mk hB
  have hnew := new_calls n hn W
  clear hn hK hB
  go_enter Try.func17, Try.ntmps17
  go_wp2_with (first
    | (go_at_call 29; refine hnew.mono ?_; rintro e w1 ⟨b, vs, vf, rfl, hP, hB1⟩; have H1 := Aside0.mk (And.intro hP hB1); clear hP hB1 hnew; have eqq := eqp ⟨b, 0, none⟩)
    | (go_at_call 11; refine (r05_New.calls K (n : Int) _ _ w1 hk0).mono ?_; rintro e w2 ⟨lv, rfl, hR, hB2⟩; have H2 := Aside0.mk (And.intro hR hB2); clear hR hB2)
    | (go_at_call 12; refine (awake_calls w2).mono ?_; rintro e w3 ⟨rfl, hB3⟩; have H3 := Aside0.mk hB3; clear hB3))
  (try simp only [Exit.inBlock, Exit.then])
  refine bodyPost_ret (results_tmp4 rfl _ _ _) rfl ?_
  have hB1 := H1.out.2
  have hB2 := H2.out.2
  have hB3 := H3.out
  have hs := HB.out.size
  have hP2 := (H1.out.1.kept hB2).kept hB3
  have hR3 := Kd.R_below H2.out.1 hB3
  have hlow : ∀ k, lv.ownBlock = some k → w1.heap.size ≤ k := fun k hk => by
    obtain ⟨inner, ho⟩ := Kd.R_own H2.out.1
    exact (ho.lt k hk).1
  have h12 := hB1.size
  have hn := HN.out
  refine ⟨b, vs, vf, lv, _, rfl, ⟨⟨fallTo n 0, ?_, ?_, ?_⟩, row_own (Kd.R_lower hR3 (by omega)), List.length_replicate, by omega, fun k hk hf => ?_⟩, (hB1.trans (hB2.mono h12)).trans (hB3.mono (by have := hB2.size; omega)), ?_, rfl⟩
  · rw [toS_new]
    exact hP2.lower hs
  · have hr := H1.out.1.roomy (by rw [fallTo_len, List.length_replicate, Nat.sub_zero]) (by rw [List.length_replicate]; omega)
    rw [List.length_replicate] at hr
    exact hr
  · rw [toS_new]
    exact FreeOf.new n
  · have := hlow k hk
    have := (H1.out.1.foot k hf).2
    omega
  · rintro k (hk | hk)
    · exact (H1.out.1.foot k hk).1
    · have := hlow k hk
      omega
theorem begun_yes {w0 W : World} (hB : Below w0.heap.size w0 W) (n : Nat) (hn : 1 ≤ n ∧ n ≤ 65536) : Calls Try.prog 17 #[.int .i64 (n : Int)] W fun e W' => ∃ b vs vf lv L, e = .returned (.tuple #[.pointer (some ⟨b, 0, none⟩), lv, .bool true, .bool true]) ∧ Duo w0 W' n b vs vf lv L ∧ Below W.heap.size W W' ∧ (∀ k, Ar b vs vf lv k → W.heap.size ≤ k) :=
  (begun_full hB n hn).mono fun _ _ ⟨b, vs, vf, lv, L, h1, h2, h3, h4, _⟩ => ⟨b, vs, vf, lv, L, h1, h2, h3, h4⟩
set_option maxRecDepth 100000 in
set_option maxHeartbeats 4000000 in
theorem begun_no (W : World) (n : Int) (hn : n < 1 ∨ 65536 < n) : Calls Try.prog 17 #[.int .i64 n] W fun e W' => ∃ lv, e = .returned (.tuple #[.pointer none, lv, .bool false, .bool true]) ∧ Below W.heap.size W W' := by
  obtain ⟨K, hK⟩ := new_ref_no n hn
  have hk0 := hK K (Nat.le_refl _)
  have hnew := new_no n hn W
  have eqn : ∀ w, (binOp .eql 45 (.pointer none) (.pointer none)).run Try.prog w = .ok (.bool true) w := fun _ => by kernel_rfl
  clear hn hK
  go_enter Try.func17, Try.ntmps17
  go_wp2_with (first
    | (go_at_call 29; refine hnew.mono ?_; rintro e w9 ⟨rfl, h9⟩; have h8 := h9.symm; subst h8; clear h9 hnew)
    | (go_at_call 11; refine (r05_New.calls K n _ _ W hk0).mono ?_; rintro e w2 ⟨lv, rfl, hR, hB2⟩; have H2 := Aside0.mk (And.intro hR hB2); clear hR hB2)
    | (go_at_call 12; refine (awake_calls w2).mono ?_; rintro e w3 ⟨rfl, hB3⟩; have H3 := Aside0.mk hB3; clear hB3))
  (try simp only [Exit.inBlock, Exit.then])
  refine bodyPost_ret (results_tmp4 rfl _ _ _) rfl ?_
  exact ⟨lv, rfl, H2.out.2.trans (H3.out.mono H2.out.2.size)⟩
end Go.Proofs.Ytmcmkdpidppcaaa.St
