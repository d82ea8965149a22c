/- PoolTwo: the law's walk. -/
import Derived.Test.YtmcmkdpidppcaaaPoolM
namespace Go.Proofs.Ytmcmkdpidppcaaa.St
open Go.Proofs Go.RowKit Go.Proofs.YtmcmkdpidppcaaaW.PrintWords Go.Proofs.YtmcmkdpidppcaaaW.PrintLast Go.Proofs.YtmcmkdpidppcaaaW.PrintMore Go.Proofs.Ytmcmkdpidppcaaa.A Go.Proofs.Ytmcmkdpidppcaaa.Pure
/-- whole, told of a Duo. -/
theorem Duo.whole {w0 W : World} {n b : Nat} {vs vf lv : Value} {L : List S66} (h : Duo w0 W n b vs vf lv L) : Calls Try.prog 24 #[.pointer (some ⟨b, 0, none⟩), lv] W fun e W' => e = .returned (.bool true) ∧ Below W.heap.size W W' := by
  obtain ⟨F, hp, hr, hf⟩ := h.pool
  have hSl := toS_len L
  have hlen := h.len
  have hbig := h.big
  obtain ⟨gl, c1, rfl, hgb, hgl, hle, hcl⟩ := list_cells h.row (by omega)
  exact whole_calls hp (by omega) (by omega) gl c1 hgl hcl
/-- Two of them, apart. -/
def Duos (w0 W : World) (n b : Nat) (vs vf lv : Value) (L : List S66) (b2 : Nat) (vs2 vf2 lv2 : Value) (L2 : List S66) : Prop :=
  Duo w0 W n b vs vf lv L ∧ Duo w0 W n b2 vs2 vf2 lv2 L2 ∧ ∀ k, Ar b vs vf lv k → ¬ Ar b2 vs2 vf2 lv2 k
theorem ar_step {b : Nat} {vs vf vf' lv lv' : Value} {m : Nat} (hown : vf'.ownBlock = vf.ownBlock) (hfar : ∀ k, lv'.ownBlock = some k → lv.ownBlock = some k ∨ m ≤ k) (k : Nat) (hk : Ar b vs vf' lv' k) : Ar b vs vf lv k ∨ m ≤ k := by
  rcases hk with hk | hk
  · exact .inl (.inl ((foot_same hown k).1 hk))
  · rcases hfar k hk with e | e
    · exact .inl (.inr e)
    · exact .inr e
theorem Duos.one {w0 W W' : World} {n b : Nat} {vs vf lv : Value} {L : List S66} {b2 : Nat} {vs2 vf2 lv2 : Value} {L2 : List S66} (h : Duos w0 W n b vs vf lv L b2 vs2 vf2 lv2 L2) {vf' lv' : Value} {L' : List S66} (hD : Duo w0 W' n b vs vf' lv' L') (hown : vf'.ownBlock = vf.ownBlock) (hK : Kept W W' (Ar b vs vf lv)) (hfar : ∀ k, lv'.ownBlock = some k → lv.ownBlock = some k ∨ W.heap.size ≤ k) : Duos w0 W' n b vs vf' lv' L' b2 vs2 vf2 lv2 L2 := by
  refine ⟨hD, h.2.1.kept hK (fun k h2 h1 => h.2.2 k h1 h2), fun k h1 h2 => ?_⟩
  rcases ar_step hown hfar k h1 with e | e
  · exact h.2.2 k e h2
  · have := (h.2.1.area k h2).2
    omega
theorem Duos.swap {w0 W : World} {n b : Nat} {vs vf lv : Value} {L : List S66} {b2 : Nat} {vs2 vf2 lv2 : Value} {L2 : List S66} (h : Duos w0 W n b vs vf lv L b2 vs2 vf2 lv2 L2) : Duos w0 W n b2 vs2 vf2 lv2 L2 b vs vf lv L :=
  ⟨h.2.1, h.1, fun k h2 h1 => h.2.2 k h1 h2⟩
set_option maxRecDepth 100000 in
set_option maxHeartbeats 8000000 in
theorem two_yes (n : Nat) (hn : 1 ≤ n ∧ n ≤ 65536) (A : Option Addr) (c : Nat) (ops : List (Int × Int × Int)) (A2 : Option Addr) (c2 : Nat) (ops2 : List (Int × Int × Int)) (w : World) (hO : OpRow w A ops) (hO2 : OpRow w A2 ops2) (hl : ops.length ≤ 4611686018427387904) (hl2 : ops2.length ≤ 4611686018427387904) :
    Calls Try.prog 6 #[.int .i64 (n : Int), .slice A ops.length c, .slice A2 ops2.length c2] w fun e w' => e = .returned (.bool true) ∧ Below w.heap.size w w' := by
  have HO := Aside0.mk (And.intro hO hO2)
  have HL := Go.Lib.hid (And.intro hl hl2)
  have HN := Go.Lib.hid hn
  clear hO hO2 hl hl2 hn
  have HBg := Aside0.mk (begun_yes (Below.refl w.heap.size w) n HN.out)
  go_enter Try.func6, Try.ntmps6
  go_wp2_with (first
    | (go_at_call 17; refine HBg.out.mono ?_; rintro e w1 ⟨b, vs, vf, lv, L, rfl, hD, hB1, _⟩; have H1 := Aside0.mk (And.intro hD hB1); clear hD hB1 HBg; have HBh := Aside0.mk (begun_yes H1.out.2 n HN.out))
    | (go_at_call 17; refine HBh.out.mono ?_; rintro e w2 ⟨b2, vs2, vf2, lv2, L2, rfl, hD2, hB2, hfar⟩; have H2 : Aside0 (Duos w w2 n b vs vf lv L b2 vs2 vf2 lv2 L2 ∧ Below w.heap.size w w2) := ⟨⟨H1.out.1.kept (Kept.of_below hB2 (fun _ => False)) (fun _ _ h => h), hD2, fun k h1 h2 => (by have := (H1.out.1.area k h1).2; have := hfar k h2; omega)⟩, H1.out.2.trans (hB2.mono H1.out.2.size)⟩; clear hD2 hB2 hfar HBh))
  go_loopg [8, 12, 15] (ops.length + ops2.length + 1) (fun kx s8 s12 s15 wr => ∃ (lv vf : Value) (L : List S66) (lv2 vf2 : Value) (L2 : List S66) (i : Nat), lv = s8 ∧ lv2 = s12 ∧ s15 = .int .i64 (i : Int) ∧ Hid (ops.length + ops2.length < i + kx) ∧ Aside0 (Duos w wr n b vs vf lv L b2 vs2 vf2 lv2 L2 ∧ Below w.heap.size w wr))
  case atStart => exact ⟨lv, vf, L, lv2, vf2, L2, 0, rfl, rfl, rfl, by (show _ < _; omega), H2⟩
  case round =>
    clear H1 H2
    obtain ⟨lv3, vf3, L3, lv4, vf4, L4, i, rfl, rfl, rfl, hi, H1⟩ := hrel
    by_cases ca : i < ops.length
    · by_cases cb : i < ops2.length
      · have CI := Go.Lib.hid (And.intro ca cb)
        have hRa := (HO.out.1).kept H1.out.2
        obtain ⟨ada, rfl, h0a, h1a, h2a⟩ := hRa i ca
        obtain ⟨x0a, e0a⟩ : ∃ x, x = (ops.getD i (0, 0, 0)).1 := ⟨_, rfl⟩
        obtain ⟨x1a, e1a⟩ : ∃ x, x = (ops.getD i (0, 0, 0)).2.1 := ⟨_, rfl⟩
        obtain ⟨x2a, e2a⟩ : ∃ x, x = (ops.getD i (0, 0, 0)).2.2 := ⟨_, rfl⟩
        rw [← e0a] at h0a
        rw [← e1a] at h1a
        rw [← e2a] at h2a
        have z1a : decide ((i : Int) < (ops.length : Int)) = true := decide_eq_true (by omega)
        have z3a : 0 ≤ (i : Int) := by omega
        have z4a : (i : Int) < (ops.length : Int) := by omega
        clear hRa e0a e1a e2a
        have z1b : decide ((i : Int) < (ops2.length : Int)) = true := decide_eq_true (by omega)
        have z3b : 0 ≤ (i : Int) := by omega
        have z4b : (i : Int) < (ops2.length : Int) := by omega
        clear ca cb
        have CI2 := Go.Lib.hid CI.out.2
        obtain ⟨x0b, e0b⟩ : ∃ x, x = (ops2.getD i (0, 0, 0)).1 := ⟨_, rfl⟩
        obtain ⟨x1b, e1b⟩ : ∃ x, x = (ops2.getD i (0, 0, 0)).2.1 := ⟨_, rfl⟩
        obtain ⟨x2b, e2b⟩ : ∃ x, x = (ops2.getD i (0, 0, 0)).2.2 := ⟨_, rfl⟩
        obtain ⟨adb, rfl, _⟩ := HO.out.2 i CI2.out
        have E2 : Aside0 (∀ W, Below w.heap.size w W → W.cell? (adb.add (i * 3)) = some (.int .i64 x0b) ∧ W.cell? ⟨(adb.add (i * 3)).block, (adb.add (i * 3)).off + 1, none⟩ = some (.int .i64 x1b) ∧ W.cell? ⟨(adb.add (i * 3)).block, (adb.add (i * 3)).off + 2, none⟩ = some (.int .i64 x2b)) := ⟨fun W hW => by
          obtain ⟨ad, e, h0, h1, h2⟩ := (HO.out.2.kept hW) i CI2.out
          injection e with e
          subst e
          exact ⟨h0.trans (by rw [e0b]), h1.trans (by rw [e1b]), h2.trans (by rw [e2b])⟩⟩
        clear e0b e1b e2b
        go_wp2_with (first
          | (go_at_call 22; refine (step_calls H2.out.1.2.1 H2.out.2 x0b x1b x2b).mono ?_; rintro e w4 ⟨lv6, vf6, L6, rfl, hD, hown, hK, hfar, hB4⟩; have H3 : Aside0 (Duos w w4 n b vs vf5 lv5 L5 b2 vs2 vf6 lv6 L6 ∧ Below w.heap.size w w4) := ⟨(H2.out.1.swap.one hD hown hK hfar).swap, hB4⟩; clear hD hown hK hfar hB4)
          | (go_at_call 22; refine (step_calls H1.out.1.1 H1.out.2 x0a x1a x2a).mono ?_; rintro e w3 ⟨lv5, vf5, L5, rfl, hD, hown, hK, hfar, hB3⟩; have H2 : Aside0 (Duos w w3 n b vs vf5 lv5 L5 b2 vs2 vf4 lv4 L4 ∧ Below w.heap.size w w3) := ⟨H1.out.1.one hD hown hK hfar, hB3⟩; obtain ⟨h0b, h1b, h2b⟩ := E2.out w3 hB3; clear hD hown hK hfar hB3 h0a h1a h2a))
        go_roundg (ops.length + ops2.length - i)
        case measure => have h1 : _ < _ := hi; have := CI2.out; omega
        case rel => exact ⟨lv5, vf5, L5, lv6, vf6, L6, i + 1, rfl, rfl, by (have := HL.out; have := CI2.out; show Value.int .i64 (wrap64 ((i : Int) + 1)) = Value.int .i64 ((i + 1 : Nat) : Int); congr 1; unfold wrap64; omega), by (have := CI2.out; show _ < _; omega), H3⟩
      · have CI := Go.Lib.hid ca
        have hRa := (HO.out.1).kept H1.out.2
        obtain ⟨ada, rfl, h0a, h1a, h2a⟩ := hRa i ca
        obtain ⟨x0a, e0a⟩ : ∃ x, x = (ops.getD i (0, 0, 0)).1 := ⟨_, rfl⟩
        obtain ⟨x1a, e1a⟩ : ∃ x, x = (ops.getD i (0, 0, 0)).2.1 := ⟨_, rfl⟩
        obtain ⟨x2a, e2a⟩ : ∃ x, x = (ops.getD i (0, 0, 0)).2.2 := ⟨_, rfl⟩
        rw [← e0a] at h0a
        rw [← e1a] at h1a
        rw [← e2a] at h2a
        have z1a : decide ((i : Int) < (ops.length : Int)) = true := decide_eq_true (by omega)
        have z3a : 0 ≤ (i : Int) := by omega
        have z4a : (i : Int) < (ops.length : Int) := by omega
        clear hRa e0a e1a e2a
        have z1b : decide ((i : Int) < (ops2.length : Int)) = false := decide_eq_false (by omega)
        have z2b : decide (i < ops2.length) = false := decide_eq_false cb
        clear ca cb
        go_wp2_with (go_at_call 22; refine (step_calls H1.out.1.1 H1.out.2 x0a x1a x2a).mono ?_; rintro e w3 ⟨lv5, vf5, L5, rfl, hD, hown, hK, hfar, hB3⟩; have H2 : Aside0 (Duos w w3 n b vs vf5 lv5 L5 b2 vs2 vf4 lv4 L4 ∧ Below w.heap.size w w3) := ⟨H1.out.1.one hD hown hK hfar, hB3⟩; clear hD hown hK hfar hB3)
        go_roundg (ops.length + ops2.length - i)
        case measure => have h1 : _ < _ := hi; have := CI.out; omega
        case rel => exact ⟨lv5, vf5, L5, lv4, vf4, L4, i + 1, rfl, rfl, by (have := HL.out; have := CI.out; show Value.int .i64 (wrap64 ((i : Int) + 1)) = Value.int .i64 ((i + 1 : Nat) : Int); congr 1; unfold wrap64; omega), by (have := CI.out; show _ < _; omega), H2⟩
    · by_cases cb : i < ops2.length
      · have CI := Go.Lib.hid cb
        have hRb := (HO.out.2).kept H1.out.2
        obtain ⟨adb, rfl, h0b, h1b, h2b⟩ := hRb i cb
        obtain ⟨x0b, e0b⟩ : ∃ x, x = (ops2.getD i (0, 0, 0)).1 := ⟨_, rfl⟩
        obtain ⟨x1b, e1b⟩ : ∃ x, x = (ops2.getD i (0, 0, 0)).2.1 := ⟨_, rfl⟩
        obtain ⟨x2b, e2b⟩ : ∃ x, x = (ops2.getD i (0, 0, 0)).2.2 := ⟨_, rfl⟩
        rw [← e0b] at h0b
        rw [← e1b] at h1b
        rw [← e2b] at h2b
        have z1b : decide ((i : Int) < (ops2.length : Int)) = true := decide_eq_true (by omega)
        have z3b : 0 ≤ (i : Int) := by omega
        have z4b : (i : Int) < (ops2.length : Int) := by omega
        clear hRb e0b e1b e2b
        have z1a : decide ((i : Int) < (ops.length : Int)) = false := decide_eq_false (by omega)
        have z2a : decide (i < ops.length) = false := decide_eq_false ca
        clear ca cb
        go_wp2_with (go_at_call 22; refine (step_calls H1.out.1.2.1 H1.out.2 x0b x1b x2b).mono ?_; rintro e w3 ⟨lv5, vf5, L5, rfl, hD, hown, hK, hfar, hB3⟩; have H2 : Aside0 (Duos w w3 n b vs vf3 lv3 L3 b2 vs2 vf5 lv5 L5 ∧ Below w.heap.size w w3) := ⟨(H1.out.1.swap.one hD hown hK hfar).swap, hB3⟩; clear hD hown hK hfar hB3)
        go_roundg (ops.length + ops2.length - i)
        case measure => have h1 : _ < _ := hi; have := CI.out; omega
        case rel => exact ⟨lv3, vf3, L3, lv5, vf5, L5, i + 1, rfl, rfl, by (have := HL.out; have := CI.out; show Value.int .i64 (wrap64 ((i : Int) + 1)) = Value.int .i64 ((i + 1 : Nat) : Int); congr 1; unfold wrap64; omega), by (have := CI.out; show _ < _; omega), H2⟩
      · skip
        have z1a : decide ((i : Int) < (ops.length : Int)) = false := decide_eq_false (by omega)
        have z2a : decide (i < ops.length) = false := decide_eq_false ca
        have z1b : decide ((i : Int) < (ops2.length : Int)) = false := decide_eq_false (by omega)
        have z2b : decide (i < ops2.length) = false := decide_eq_false cb
        clear ca cb
        go_wp2_with (first
          | (go_at_call 24; refine H2.out.1.whole.mono ?_; rintro e w4 ⟨rfl, hB4⟩; have H3 := Aside0.mk (H2.out.2.trans (hB4.mono H2.out.2.size)); clear hB4)
          | (go_at_call 24; refine H1.out.1.1.whole.mono ?_; rintro e w3 ⟨rfl, hB3⟩; have H2 := Aside0.mk (And.intro (H1.out.1.2.1.kept (Kept.of_below hB3 (fun _ => False)) (fun _ _ h => h)) (H1.out.2.trans (hB3.mono H1.out.2.size))); clear hB3))
        go_ret
        exact ⟨rfl, H3.out⟩
set_option maxRecDepth 100000 in
set_option maxHeartbeats 1000000 in
theorem two_no (n : Int) (hn : n < 1 ∨ 65536 < n) (v v2 : Value) (w : World) :
    Calls Try.prog 6 #[.int .i64 n, v, v2] w fun e w' => e = .returned (.bool true) ∧ Below w.heap.size w w' := by
  have hb := Aside0.mk (fun W => begun_no W n hn)
  clear hn
  go_enter Try.func6, Try.ntmps6
  go_wp2_with (first
    | (go_at_call 17; refine (hb.out w1).mono ?_; rintro e w2 ⟨lv2, rfl, hB2⟩; have H2 := Aside0.mk (H1.out.trans (hB2.mono H1.out.size)); clear hB2)
    | (go_at_call 17; refine (hb.out w).mono ?_; rintro e w1 ⟨lv, rfl, hB1⟩; have H1 := Aside0.mk hB1; clear hB1))
  go_ret
  exact ⟨rfl, H2.out⟩
theorem two_calls (n : Int) (A : Option Addr) (c : Nat) (ops : List (Int × Int × Int)) (A2 : Option Addr) (c2 : Nat) (ops2 : List (Int × Int × Int)) (w : World) (hO : OpRow w A ops) (hO2 : OpRow w A2 ops2) (hl : ops.length ≤ 4611686018427387904) (hl2 : ops2.length ≤ 4611686018427387904) :
    Calls Try.prog 6 #[.int .i64 n, .slice A ops.length c, .slice A2 ops2.length c2] w fun e w' => e = .returned (.bool true) ∧ Below w.heap.size w w' := by
  by_cases h : 1 ≤ n ∧ n ≤ 65536
  · obtain ⟨k, rfl⟩ : ∃ k : Nat, n = (k : Int) := ⟨n.toNat, by omega⟩
    exact two_yes k (by omega) A c ops A2 c2 ops2 w hO hO2 hl hl2
  · exact two_no n (by omega) _ _ w
end Go.Proofs.Ytmcmkdpidppcaaa.St
