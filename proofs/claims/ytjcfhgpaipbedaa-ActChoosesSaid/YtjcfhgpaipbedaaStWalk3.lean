/- slices.symMergeCmpFunc at []int, its second short case: from a world of the sort's to a world of the sort's. -/
import Derived.Test.YtjcfhgpaipbedaaStWalk2
namespace Go.Proofs.Ytjcfhgpaipbedaa.St
open Go.Proofs Go.Shelf Go.RowKit Go.Lib Go.Sort
variable {α : Type} [Inhabited α]

set_option maxHeartbeats 2000000 in
set_option maxRecDepth 1000000 in
theorem sym_last (enc : α → Value) (cf : α → α → Int) (g : Nat) (cb : Array Value) (blk off cap a m b : Nat) (d0 d : Array α) (w0 w : World)
    (eg : ∀ args w, (callFunc g args).run Try.prog w = .ok (.enter g args) w) (hcmp : CmpLays1 Try.prog g cb enc cf blk off d0.size w0)
    (R : Row1 enc w0 blk off d0) (hs : d.size = d0.size) (S : SW enc w0 blk off d w) (ham : a + 1 < m) (hmb : m + 1 = b) (hb : b ≤ d0.size) (hsz : d0.size < 4611686018427387904) :
    Calls Try.prog 65 #[.slice (some ⟨blk, off, none⟩) d0.size cap, .int .i64 a, .int .i64 m, .int .i64 b, .func (.func g) #[] cb] w fun e w' => e = .returned (.tuple #[]) ∧ SW enc w0 blk off (shiftDown (search (fun h => !ltOf cf d[m]! d[h]!) a m) m d) w' := by
  have hcl0 := R.hO.cells
  simp only [Value.cells] at hcl0
  have hst := R.hO.store Try.prog
  have mixed : Try.prog.follows .mixedOrders = true := by kernel_rfl
  have HC : Aside _ := hcmp
  have S0 : Aside (SW enc w0 blk off d w) := S
  have t1 : ((m : Int) - (a : Int) == 1) = false := by rw [beq_eq_false_iff_ne]; omega
  have t2 : ((b : Int) - (m : Int) == 1) = true := by rw [beq_iff_eq]; omega
  have hmb1 : m + 1 ≤ b := by omega
  have hmb2 : b ≤ m + 1 := by omega
  clear S hcmp hmb
  go_enter Try.func65, Try.ntmps65
  go_wp2
  go_loopg [14, 15] (m - a) (fun kx s10 s11 wr => ∃ (i j : Nat), s10 = .int .i64 i ∧ s11 = .int .i64 j ∧ a ≤ i ∧ i ≤ j ∧ j ≤ m ∧ j - i ≤ kx ∧ Aside (SW enc w0 blk off d wr) ∧ Hid (search (fun h => !ltOf cf d[m]! d[h]!) i j = search (fun h => !ltOf cf d[m]! d[h]!) a m))
  case atStart => exact ⟨a, m, rfl, rfl, by omega, by omega, by omega, by omega, S0, rfl⟩
  case round =>
    clear S0
    obtain ⟨i, j, rfl, rfl, hi, hij, hj, hkx, S1, HE⟩ := hrel
    by_cases hlt : i < j
    · have hltz : (i : Int) < (j : Int) := by omega
      obtain ⟨h, hh⟩ : ∃ h, h = (i + j) / 2 := ⟨_, rfl⟩
      have eh : ((i : Int) + (j : Int)) / 2 = (h : Int) := by omega
      have hh1 : i ≤ h := by omega
      have hh2 : h < j := by omega
      have HE0 := HE.out
      rw [search, dif_pos hlt, ← hh] at HE0
      cases hlv : ltOf cf d[m]! d[h]! with
      | true =>
        have HE2 : Hid (search (fun h => !ltOf cf d[m]! d[h]!) i h = search (fun h => !ltOf cf d[m]! d[h]!) a m) := by rw [if_neg (by rw [hlv]; decide)] at HE0; exact HE0
        clear HE HE0 hh
        obtain ⟨iN1, hiN1⟩ : ∃ q_, q_ = m := ⟨_, rfl⟩
        obtain ⟨jN1, hjN1⟩ : ∃ q_, q_ = h := ⟨_, rfl⟩
        have ea1 : ((m : Int)).toNat = iN1 := by first | (rw [hiN1]; first | done | exact Int.toNat_natCast _) | omega
        have pa1 : (0 : Int) ≤ (m : Int) := by omega
        have ba1 : (m : Int) < (d0.size : Int) := by omega
        have ra1 : IntKind.i64.wrap ((m : Int)) = (m : Int) := by rw [IntKind.wrap_i64]; omega
        have ec1 : ((h : Int)).toNat = jN1 := by first | (rw [hjN1]; first | done | exact Int.toNat_natCast _) | omega
        have pc1 : (0 : Int) ≤ (h : Int) := by omega
        have bc1 : (h : Int) < (d0.size : Int) := by omega
        have rc1 : IntKind.i64.wrap ((h : Int)) = (h : Int) := by rw [IntKind.wrap_i64]; omega
        obtain ⟨x1, hx1⟩ : ∃ x, x = d[m]! := ⟨_, rfl⟩
        obtain ⟨y1, hy1⟩ : ∃ x, x = d[h]! := ⟨_, rfl⟩
        have la1 := S1.out.cl R hs (m) (by omega)
        have lb1 := S1.out.cl R hs (h) (by omega)
        rw [← hx1, ← hiN1] at la1
        rw [← hy1, ← hjN1] at lb1
        have hc1 := S1.out.cmp HC.out hs x1 y1
        have hv1 : cf x1 y1 < 0 := by rw [hx1, hy1]; exact of_decide_eq_true hlv
        have hd1 : decide (cf x1 y1 < 0) = true := decide_eq_true hv1
        clear hx1 hy1 hiN1 hjN1
        go_wp2_with fail
        go_quiet_grown (first | (go_at_fn g; refine Calls.grown_of (hc1 _ _)))
        have S2 : Aside (SW enc w0 blk off d (grow (wr.drewN nq) osq)) := S1.out.grown nq osq
        clear la1 lb1 hc1 S1
        generalize grow (wr.drewN nq) osq = w2 at S2 ⊢
        clear nq osq
        clear ea1 ec1
        go_wp2
        go_roundg (h - i)
        case measure => omega
        case rel => exact ⟨i, h, rfl, rfl, by omega, by omega, by omega, Nat.le_refl _, S2, HE2⟩
      | false =>
        have HE2 : Hid (search (fun h => !ltOf cf d[m]! d[h]!) (h + 1) j = search (fun h => !ltOf cf d[m]! d[h]!) a m) := by rw [if_pos (by rw [hlv]; rfl)] at HE0; exact HE0
        clear HE HE0 hh
        obtain ⟨iN2, hiN2⟩ : ∃ q_, q_ = m := ⟨_, rfl⟩
        obtain ⟨jN2, hjN2⟩ : ∃ q_, q_ = h := ⟨_, rfl⟩
        have ea2 : ((m : Int)).toNat = iN2 := by first | (rw [hiN2]; first | done | exact Int.toNat_natCast _) | omega
        have pa2 : (0 : Int) ≤ (m : Int) := by omega
        have ba2 : (m : Int) < (d0.size : Int) := by omega
        have ra2 : IntKind.i64.wrap ((m : Int)) = (m : Int) := by rw [IntKind.wrap_i64]; omega
        have ec2 : ((h : Int)).toNat = jN2 := by first | (rw [hjN2]; first | done | exact Int.toNat_natCast _) | omega
        have pc2 : (0 : Int) ≤ (h : Int) := by omega
        have bc2 : (h : Int) < (d0.size : Int) := by omega
        have rc2 : IntKind.i64.wrap ((h : Int)) = (h : Int) := by rw [IntKind.wrap_i64]; omega
        obtain ⟨x2, hx2⟩ : ∃ x, x = d[m]! := ⟨_, rfl⟩
        obtain ⟨y2, hy2⟩ : ∃ x, x = d[h]! := ⟨_, rfl⟩
        have la2 := S1.out.cl R hs (m) (by omega)
        have lb2 := S1.out.cl R hs (h) (by omega)
        rw [← hx2, ← hiN2] at la2
        rw [← hy2, ← hjN2] at lb2
        have hc2 := S1.out.cmp HC.out hs x2 y2
        have hv2 : ¬ cf x2 y2 < 0 := by rw [hx2, hy2]; exact of_decide_eq_false hlv
        have hd2 : decide (cf x2 y2 < 0) = false := decide_eq_false hv2
        clear hx2 hy2 hiN2 hjN2
        go_wp2_with fail
        go_quiet_grown (first | (go_at_fn g; refine Calls.grown_of (hc2 _ _)))
        have S2 : Aside (SW enc w0 blk off d (grow (wr.drewN nq) osq)) := S1.out.grown nq osq
        clear la2 lb2 hc2 S1
        generalize grow (wr.drewN nq) osq = w2 at S2 ⊢
        clear nq osq
        clear ea2 ec2
        go_wp2
        go_roundg (j - (h + 1))
        case measure => omega
        case rel => exact ⟨h + 1, j, by go_num, rfl, by omega, by omega, by omega, Nat.le_refl _, S2, HE2⟩
    · have hltz : ¬ (i : Int) < (j : Int) := by omega
      have HE2 : Hid (i = search (fun h => !ltOf cf d[m]! d[h]!) a m) := by
        have HE0 := HE.out
        rw [search, dif_neg hlt] at HE0
        exact HE0
      clear HE
      go_wp2
      go_loopg [17] m (fun kx s13 wr2 => ∃ (k : Nat) (dk : Array α), s13 = .int .i64 k ∧ i ≤ k ∧ k ≤ m ∧ k ≤ kx ∧ dk.size = d0.size ∧ Aside (SW enc w0 blk off dk wr2) ∧ Hid (shiftDown i k dk = shiftDown i m d))
      case atStart => exact ⟨m, d, rfl, by omega, by omega, by omega, hs, S1, rfl⟩
      case round =>
        clear S1
        obtain ⟨k, dk, rfl, hak, hki, hkx2, hdk, S3, HF⟩ := hrel
        by_cases hlt2 : i < k
        · have hltz2 : (i : Int) < (k : Int) := by omega
          obtain ⟨p, rfl⟩ : ∃ p, k = p + 1 := ⟨k - 1, by omega⟩
          have HF2 : Hid (shiftDown i p (swp dk (p + 1) p) = shiftDown i m d) := by
            have e := HF.out
            rw [shiftDown, if_pos hlt2] at e
            exact e
          clear HF
          go_wp2_with fail
          obtain ⟨iN, hiN⟩ : ∃ q_, q_ = p + 1 := ⟨_, rfl⟩
          obtain ⟨jN, hjN⟩ : ∃ q_, q_ = p := ⟨_, rfl⟩
          have ea : ((p : Int) + 1).toNat = iN := by first | (rw [hiN]; first | done | exact Int.toNat_natCast _) | omega
          have pa : (0 : Int) ≤ (p : Int) + 1 := by omega
          have ba : (p : Int) + 1 < (d0.size : Int) := by omega
          have ra : IntKind.i64.wrap ((p : Int) + 1) = (p : Int) + 1 := by rw [IntKind.wrap_i64]; omega
          have ec : ((p : Int)).toNat = jN := by first | (rw [hjN]; first | done | exact Int.toNat_natCast _) | omega
          have pc : (0 : Int) ≤ (p : Int) := by omega
          have bc : (p : Int) < (d0.size : Int) := by omega
          have rc : IntKind.i64.wrap ((p : Int)) = (p : Int) := by rw [IntKind.wrap_i64]; omega
          obtain ⟨x, hx⟩ : ∃ x, x = dk[p + 1]! := ⟨_, rfl⟩
          obtain ⟨y, hy⟩ : ∃ x, x = dk[p]! := ⟨_, rfl⟩
          have S4 : Aside (SW enc w0 blk off (swp dk (p + 1) (p)) ((wr.setCell ⟨blk, off + iN, none⟩ (enc y)).setCell ⟨blk, off + jN, none⟩ (enc x)).drew) := by rw [hiN, hjN, hx, hy]; exact S3.out.swapped R (p + 1) (p) (by omega) (by omega)
          have c1 := S3.out.c1 R (by omega) (p + 1) (by omega)
          have c2 := S3.out.c1 R (by omega) (p) (by omega)
          have f1 := S3.out.f1 R (by omega) (p + 1) (by omega)
          have f2 := S3.out.f1 R (by omega) (p) (by omega)
          obtain ⟨u, c3⟩ := S3.out.c2 R (by omega) (p + 1) (p) (by omega) (by omega) (enc y)
          rw [← hiN, ← hjN] at c3
          rw [← hx, ← hiN] at c1
          rw [← hy, ← hjN] at c2
          rw [← hiN] at f1
          rw [← hjN] at f2
          clear S3 hx hy hiN hjN
          go_wp2_with fail
          go_big_region_o
          clear c1 c2 c3 f1 f2
          generalize ((wr.setCell ⟨blk, off + iN, none⟩ (enc y)).setCell ⟨blk, off + jN, none⟩ (enc x)).drew = w2 at S4 ⊢
          clear ea ec
          go_wp2
          go_roundg p
          case measure => omega
          case rel => exact ⟨p, swp dk (p + 1) p, by first | rfl | go_num, by omega, by omega, Nat.le_refl _, by rw [size_swp]; exact hdk, S4, HF2⟩
        · have hltz2 : ¬ (i : Int) < (k : Int) := by omega
          go_wp2
          refine bodyPost_ret (results_none rfl _ _ _) rfl ?_
          refine ⟨rfl, ?_⟩
          have e : shiftDown i k dk = dk := by
            cases k with
            | zero => rw [shiftDown]
            | succ k => rw [shiftDown, if_neg hlt2]
          rw [← HE2.out, ← HF.out, e]
          exact S3.out
end Go.Proofs.Ytjcfhgpaipbedaa.St
