/- slices.symMergeCmpFunc at []int, the way by halves, the other side: from a world of the sort's to a world of the sort's. -/
import Derived.Test.YtjcfhgpaipbedaaStWalk4
namespace Go.Proofs.Ytjcfhgpaipbedaa.St
open Go.Proofs Go.Shelf Go.RowKit Go.Lib Go.Sort
variable {α : Type} [Inhabited α]

set_option maxHeartbeats 4000000 in
set_option maxRecDepth 1000000 in
theorem sym_lo (enc : α → Value) (cf : α → α → Int) (g : Nat) (cb : Array Value) (blk off cap f a m b : Nat) (d0 d : Array α) (w0 w : World)
    (eg : ∀ args w, (callFunc g args).run Try.prog w = .ok (.enter g args) w) (hcmp : CmpLays1 Try.prog g cb enc cf blk off d0.size w0)
    (R : Row1 enc w0 blk off d0) (hs : d.size = d0.size) (S : SW enc w0 blk off d w) (hf : b - a ≤ f + 1) (ham : a + 1 < m) (hmb : m + 1 < b) (hb : b ≤ d0.size) (hsz : d0.size < 4611686018427387904)
    (ih : ∀ (a m b : Nat) (d : Array α) (w : World), b - a ≤ f → a < m → m < b → b ≤ d0.size → d.size = d0.size → SW enc w0 blk off d w →
      Calls Try.prog 65 #[.slice (some ⟨blk, off, none⟩) d0.size cap, .int .i64 a, .int .i64 m, .int .i64 b, .func (.func g) #[] cb] w fun e w' => e = .returned (.tuple #[]) ∧ SW enc w0 blk off (symMerge (ltOf cf) f d a m b) w')
    (hmid : m ≤ (a + b) / 2) :
    Calls Try.prog 65 #[.slice (some ⟨blk, off, none⟩) d0.size cap, .int .i64 a, .int .i64 m, .int .i64 b, .func (.func g) #[] cb] w fun e w' => e = .returned (.tuple #[]) ∧ SW enc w0 blk off (symMerge (ltOf cf) (f + 1) d a m b) w' := by
  have hcl0 := R.hO.cells
  simp only [Value.cells] at hcl0
  have hst := R.hO.store Try.prog
  have mixed : Try.prog.follows .mixedOrders = true := by kernel_rfl
  have HC : Aside _ := hcmp
  have IH : Aside _ := ih
  have S0 : Aside (SW enc w0 blk off d w) := S
  have t1 : ((m : Int) - (a : Int) == 1) = false := by rw [beq_eq_false_iff_ne]; omega
  have t2 : ((b : Int) - (m : Int) == 1) = false := by rw [beq_eq_false_iff_ne]; omega
  obtain ⟨mid, hmd⟩ : ∃ mid, mid = (a + b) / 2 := ⟨_, rfl⟩
  have em : ((a : Int) + (b : Int)) / 2 = (mid : Int) := by omega
  rw [← hmd] at hmid
  have hm1 : a < mid := by omega
  have hm2 : mid < b := by omega
  have hm3 : mid + mid ≤ a + b := by omega
  have hm4 : a + b ≤ mid + mid + 1 := by omega
  obtain ⟨pp, hpp⟩ : ∃ pp, pp + 1 = mid + m := ⟨mid + m - 1, by omega⟩
  have ep : (mid : Int) + (m : Int) - 1 = (pp : Int) := by omega
  have hmz : ¬ (mid : Int) < (m : Int) := by omega
  have hst0 : Hid (search (fun c => !ltOf cf d[pp - c]! d[c]!) a m = symStart (ltOf cf) d a m b) := by
    show _ = _
    rw [symStart, ← hmd, if_neg (by omega), if_neg (by omega), show mid + m - 1 = pp by omega]
  have hres : Hid (symMerge (ltOf cf) (f + 1) d a m b =
      (if mid < mid + m - symStart (ltOf cf) d a m b ∧ mid + m - symStart (ltOf cf) d a m b < b then
        symMerge (ltOf cf) f (if a < symStart (ltOf cf) d a m b ∧ symStart (ltOf cf) d a m b < mid then symMerge (ltOf cf) f (symRot d (symStart (ltOf cf) d a m b) m (mid + m - symStart (ltOf cf) d a m b)) a (symStart (ltOf cf) d a m b) mid else symRot d (symStart (ltOf cf) d a m b) m (mid + m - symStart (ltOf cf) d a m b)) mid (mid + m - symStart (ltOf cf) d a m b) b
      else (if a < symStart (ltOf cf) d a m b ∧ symStart (ltOf cf) d a m b < mid then symMerge (ltOf cf) f (symRot d (symStart (ltOf cf) d a m b) m (mid + m - symStart (ltOf cf) d a m b)) a (symStart (ltOf cf) d a m b) mid else symRot d (symStart (ltOf cf) d a m b) m (mid + m - symStart (ltOf cf) d a m b)))) := by
    show _ = _
    rw [symMerge, if_neg (by omega), if_neg (by omega), ← hmd]
  have hpp1 : pp + 1 ≤ mid + m := by omega
  have hpp2 : mid + m ≤ pp + 1 := by omega
  clear S hcmp ih hmd hpp
  go_enter Try.func65, Try.ntmps65
  go_wp2
  go_loopg [20, 21] (m - a) (fun kx s10 s11 wr => ∃ (i j : Nat), s10 = .int .i64 i ∧ s11 = .int .i64 j ∧ a ≤ i ∧ i ≤ j ∧ j ≤ m ∧ j - i ≤ kx ∧ Aside (SW enc w0 blk off d wr) ∧ Hid (search (fun c => !ltOf cf d[pp - c]! d[c]!) i j = search (fun c => !ltOf cf d[pp - c]! d[c]!) a m))
  case atStart => exact ⟨a, m, rfl, rfl, by omega, by omega, by omega, by omega, S0, rfl⟩
  case round =>
    clear S0
    obtain ⟨i, j, rfl, rfl, hi, hij, hj, hkx, S1, HE⟩ := hrel
    by_cases hlt : i < j
    · have hltz : (i : Int) < (j : Int) := by omega
      obtain ⟨h, hh⟩ : ∃ h, h = (i + j) / 2 := ⟨_, rfl⟩
      have eh : ((i : Int) + (j : Int)) / 2 = (h : Int) := by omega
      have hh1 : i ≤ h := by omega
      have hh2 : h < j := by omega
      obtain ⟨q, hq⟩ : ∃ q, q + h = pp := ⟨pp - h, by omega⟩
      have eq : (pp : Int) - (h : Int) = (q : Int) := by omega
      have hqp : pp - h = q := by omega
      have hq1 : q < d0.size := by omega
      have HE0 := HE.out
      rw [search, dif_pos hlt, ← hh, hqp] at HE0
      clear hqp hq
      cases hlv : ltOf cf d[q]! d[h]! with
      | true =>
        have HE2 : Hid (search (fun c => !ltOf cf d[pp - c]! d[c]!) i h = search (fun c => !ltOf cf d[pp - c]! d[c]!) a m) := by rw [if_neg (by rw [hlv]; decide)] at HE0; exact HE0
        clear HE HE0 hh
        obtain ⟨iN1, hiN1⟩ : ∃ q_, q_ = q := ⟨_, rfl⟩
        obtain ⟨jN1, hjN1⟩ : ∃ q_, q_ = h := ⟨_, rfl⟩
        have ea1 : ((q : Int)).toNat = iN1 := by first | (rw [hiN1]; first | done | exact Int.toNat_natCast _) | omega
        have pa1 : (0 : Int) ≤ (q : Int) := by omega
        have ba1 : (q : Int) < (d0.size : Int) := by omega
        have ra1 : IntKind.i64.wrap ((q : Int)) = (q : Int) := by rw [IntKind.wrap_i64]; omega
        have ec1 : ((h : Int)).toNat = jN1 := by first | (rw [hjN1]; first | done | exact Int.toNat_natCast _) | omega
        have pc1 : (0 : Int) ≤ (h : Int) := by omega
        have bc1 : (h : Int) < (d0.size : Int) := by omega
        have rc1 : IntKind.i64.wrap ((h : Int)) = (h : Int) := by rw [IntKind.wrap_i64]; omega
        obtain ⟨x1, hx1⟩ : ∃ x, x = d[q]! := ⟨_, rfl⟩
        obtain ⟨y1, hy1⟩ : ∃ x, x = d[h]! := ⟨_, rfl⟩
        have la1 := S1.out.cl R hs (q) (by omega)
        have lb1 := S1.out.cl R hs (h) (by omega)
        rw [← hx1, ← hiN1] at la1
        rw [← hy1, ← hjN1] at lb1
        have hc1 := S1.out.cmp HC.out hs x1 y1
        have hv1 : cf x1 y1 < 0 := by rw [hx1, hy1]; exact of_decide_eq_true hlv
        have hd1 : decide (cf x1 y1 < 0) = true := decide_eq_true hv1
        clear hx1 hy1 hiN1 hjN1
        go_wp2_with fail
        go_quiet_grown (first | (go_at_fn g; refine Calls.grown_of (hc1 _ _)))
        have S2 : Aside (SW enc w0 blk off d (grow (wr.drewN nq) osq)) := S1.out.grown nq osq
        clear la1 lb1 hc1 S1
        generalize grow (wr.drewN nq) osq = w2 at S2 ⊢
        clear nq osq
        clear ea1 ec1
        go_wp2
        go_roundg (h - i)
        case measure => omega
        case rel => exact ⟨i, h, rfl, rfl, by omega, by omega, by omega, Nat.le_refl _, S2, HE2⟩
      | false =>
        have HE2 : Hid (search (fun c => !ltOf cf d[pp - c]! d[c]!) (h + 1) j = search (fun c => !ltOf cf d[pp - c]! d[c]!) a m) := by rw [if_pos (by rw [hlv]; rfl)] at HE0; exact HE0
        clear HE HE0 hh
        obtain ⟨iN2, hiN2⟩ : ∃ q_, q_ = q := ⟨_, rfl⟩
        obtain ⟨jN2, hjN2⟩ : ∃ q_, q_ = h := ⟨_, rfl⟩
        have ea2 : ((q : Int)).toNat = iN2 := by first | (rw [hiN2]; first | done | exact Int.toNat_natCast _) | omega
        have pa2 : (0 : Int) ≤ (q : Int) := by omega
        have ba2 : (q : Int) < (d0.size : Int) := by omega
        have ra2 : IntKind.i64.wrap ((q : Int)) = (q : Int) := by rw [IntKind.wrap_i64]; omega
        have ec2 : ((h : Int)).toNat = jN2 := by first | (rw [hjN2]; first | done | exact Int.toNat_natCast _) | omega
        have pc2 : (0 : Int) ≤ (h : Int) := by omega
        have bc2 : (h : Int) < (d0.size : Int) := by omega
        have rc2 : IntKind.i64.wrap ((h : Int)) = (h : Int) := by rw [IntKind.wrap_i64]; omega
        obtain ⟨x2, hx2⟩ : ∃ x, x = d[q]! := ⟨_, rfl⟩
        obtain ⟨y2, hy2⟩ : ∃ x, x = d[h]! := ⟨_, rfl⟩
        have la2 := S1.out.cl R hs (q) (by omega)
        have lb2 := S1.out.cl R hs (h) (by omega)
        rw [← hx2, ← hiN2] at la2
        rw [← hy2, ← hjN2] at lb2
        have hc2 := S1.out.cmp HC.out hs x2 y2
        have hv2 : ¬ cf x2 y2 < 0 := by rw [hx2, hy2]; exact of_decide_eq_false hlv
        have hd2 : decide (cf x2 y2 < 0) = false := decide_eq_false hv2
        clear hx2 hy2 hiN2 hjN2
        go_wp2_with fail
        go_quiet_grown (first | (go_at_fn g; refine Calls.grown_of (hc2 _ _)))
        have S2 : Aside (SW enc w0 blk off d (grow (wr.drewN nq) osq)) := S1.out.grown nq osq
        clear la2 lb2 hc2 S1
        generalize grow (wr.drewN nq) osq = w2 at S2 ⊢
        clear nq osq
        clear ea2 ec2
        go_wp2
        go_roundg (j - (h + 1))
        case measure => omega
        case rel => exact ⟨h + 1, j, by go_num, rfl, by omega, by omega, by omega, Nat.le_refl _, S2, HE2⟩
    · have hltz : ¬ (i : Int) < (j : Int) := by omega
      have HE2 : Hid (i = symStart (ltOf cf) d a m b) := by
        have HE0 := HE.out
        rw [search, dif_neg hlt] at HE0
        rw [HE0]
        exact hst0.out
      have HR : Hid _ := hres.out
      rw [← HE2.out] at HR
      clear HE hst0 hres HE2
      obtain ⟨e, he⟩ : ∃ e, e + i = mid + m := ⟨mid + m - i, by omega⟩
      have ee : (mid : Int) + (m : Int) - (i : Int) = (e : Int) := by omega
      rw [show mid + m - i = e by omega] at HR
      have b1 : m ≤ e := by omega
      have b2 : e ≤ b := by omega
      have b3 : i ≤ m := by omega
      have b4 : i ≤ mid := by omega
      have b5 : e + i ≤ mid + m := by omega
      have b6 : mid + m ≤ e + i := by omega
      clear he
      by_cases q0 : i < m
      · skip
        by_cases q2 : i < mid
        · skip
          have z1 : (i : Int) < (m : Int) := by omega
          have z1d : decide ((i : Int) < (m : Int)) = true := decide_eq_true z1
          have z0 : (m : Int) < (e : Int) := by omega
          have z0d : decide ((m : Int) < (e : Int)) = true := decide_eq_true z0
          go_wp2_with fail
          ((with_reducible refine (rotate_calls enc g cb blk off cap i m e d0 d w0 _ R hs S1.out (by omega) (by omega) (by omega) hsz).mono ?_))
          rintro e' w3 ⟨rfl, T3⟩
          have S3 : Aside (SW enc w0 blk off (rot m (m - i) (e - m) d) w3) := T3
          clear T3 S1
          have z2 : (i : Int) < (mid : Int) := by omega
          have z2d : decide ((i : Int) < (mid : Int)) = true := decide_eq_true z2
          by_cases q15 : a < i
          · skip
            have z3 : (a : Int) < (i : Int) := by omega
            have z3d : decide ((a : Int) < (i : Int)) = true := decide_eq_true z3
            go_wp2_with fail
            ((with_reducible refine (IH.out a i mid (rot m (m - i) (e - m) d) _ (by omega) (by omega) (by omega) (by omega) (by rw [size_rot _ _ _ _ _ rfl]; exact hs) S3.out).mono ?_))
            rintro e' w4 ⟨rfl, T4⟩
            have S4 : Aside (SW enc w0 blk off (symMerge (ltOf cf) f (rot m (m - i) (e - m) d) a i mid) w4) := T4
            clear T4 S3
            have z5 : (mid : Int) < (e : Int) := by omega
            have z5d : decide ((mid : Int) < (e : Int)) = true := decide_eq_true z5
            by_cases q26 : e < b
            · skip
              have z4 : (e : Int) < (b : Int) := by omega
              have z4d : decide ((e : Int) < (b : Int)) = true := decide_eq_true z4
              go_wp2_with fail
              ((with_reducible refine (IH.out mid e b (symMerge (ltOf cf) f (rot m (m - i) (e - m) d) a i mid) _ (by omega) (by omega) (by omega) (by omega) (by rw [size_symMerge]; exact (by rw [size_rot _ _ _ _ _ rfl]; exact hs)) S4.out).mono ?_))
              rintro e' w5 ⟨rfl, T5⟩
              have S5 : Aside (SW enc w0 blk off (symMerge (ltOf cf) f (symMerge (ltOf cf) f (rot m (m - i) (e - m) d) a i mid) mid e b) w5) := T5
              clear T5 S4
              go_wp2
              go_end0
              refine ⟨rfl, ?_⟩
              have hr := HR.out
              rw [if_pos (show mid < e ∧ e < b from ⟨by omega, by omega⟩), if_pos (show a < i ∧ i < mid from ⟨by omega, by omega⟩), symRot, if_pos (show i < m ∧ m < e from ⟨by omega, by omega⟩)] at hr
              rw [hr]
              exact S5.out
            · skip
              have z4 : ¬ (e : Int) < (b : Int) := by omega
              have z4d : decide ((e : Int) < (b : Int)) = false := decide_eq_false z4
              go_wp2
              go_end0
              refine ⟨rfl, ?_⟩
              have hr := HR.out
              rw [if_neg (show ¬ (mid < e ∧ e < b) by omega), if_pos (show a < i ∧ i < mid from ⟨by omega, by omega⟩), symRot, if_pos (show i < m ∧ m < e from ⟨by omega, by omega⟩)] at hr
              rw [hr]
              exact S4.out
          · skip
            have z3 : ¬ (a : Int) < (i : Int) := by omega
            have z3d : decide ((a : Int) < (i : Int)) = false := decide_eq_false z3
            have z5 : (mid : Int) < (e : Int) := by omega
            have z5d : decide ((mid : Int) < (e : Int)) = true := decide_eq_true z5
            by_cases q57 : e < b
            · skip
              have z4 : (e : Int) < (b : Int) := by omega
              have z4d : decide ((e : Int) < (b : Int)) = true := decide_eq_true z4
              go_wp2_with fail
              ((with_reducible refine (IH.out mid e b (rot m (m - i) (e - m) d) _ (by omega) (by omega) (by omega) (by omega) (by rw [size_rot _ _ _ _ _ rfl]; exact hs) S3.out).mono ?_))
              rintro e' w5 ⟨rfl, T5⟩
              have S5 : Aside (SW enc w0 blk off (symMerge (ltOf cf) f (rot m (m - i) (e - m) d) mid e b) w5) := T5
              clear T5 S3
              go_wp2
              go_end0
              refine ⟨rfl, ?_⟩
              have hr := HR.out
              rw [if_pos (show mid < e ∧ e < b from ⟨by omega, by omega⟩), if_neg (show ¬ (a < i ∧ i < mid) by omega), symRot, if_pos (show i < m ∧ m < e from ⟨by omega, by omega⟩)] at hr
              rw [hr]
              exact S5.out
            · skip
              have z4 : ¬ (e : Int) < (b : Int) := by omega
              have z4d : decide ((e : Int) < (b : Int)) = false := decide_eq_false z4
              go_wp2
              go_end0
              refine ⟨rfl, ?_⟩
              have hr := HR.out
              rw [if_neg (show ¬ (mid < e ∧ e < b) by omega), if_neg (show ¬ (a < i ∧ i < mid) by omega), symRot, if_pos (show i < m ∧ m < e from ⟨by omega, by omega⟩)] at hr
              rw [hr]
              exact S3.out
        · skip
          exfalso; omega
      · skip
        by_cases q86 : i < mid
        · skip
          have z1 : ¬ (i : Int) < (m : Int) := by omega
          have z1d : decide ((i : Int) < (m : Int)) = false := decide_eq_false z1
          have z0 : (m : Int) < (e : Int) := by omega
          have z0d : decide ((m : Int) < (e : Int)) = true := decide_eq_true z0
          have z2 : (i : Int) < (mid : Int) := by omega
          have z2d : decide ((i : Int) < (mid : Int)) = true := decide_eq_true z2
          by_cases q94 : a < i
          · skip
            have z3 : (a : Int) < (i : Int) := by omega
            have z3d : decide ((a : Int) < (i : Int)) = true := decide_eq_true z3
            go_wp2_with fail
            ((with_reducible refine (IH.out a i mid d _ (by omega) (by omega) (by omega) (by omega) hs S1.out).mono ?_))
            rintro e' w4 ⟨rfl, T4⟩
            have S4 : Aside (SW enc w0 blk off (symMerge (ltOf cf) f d a i mid) w4) := T4
            clear T4 S1
            have z5 : ¬ (mid : Int) < (e : Int) := by omega
            have z5d : decide ((mid : Int) < (e : Int)) = false := decide_eq_false z5
            go_wp2
            go_end0
            refine ⟨rfl, ?_⟩
            have hr := HR.out
            rw [if_neg (show ¬ (mid < e ∧ e < b) by omega), if_pos (show a < i ∧ i < mid from ⟨by omega, by omega⟩), symRot, if_neg (show ¬ (i < m ∧ m < e) by omega)] at hr
            rw [hr]
            exact S4.out
          · skip
            have z3 : ¬ (a : Int) < (i : Int) := by omega
            have z3d : decide ((a : Int) < (i : Int)) = false := decide_eq_false z3
            have z5 : ¬ (mid : Int) < (e : Int) := by omega
            have z5d : decide ((mid : Int) < (e : Int)) = false := decide_eq_false z5
            go_wp2
            go_end0
            refine ⟨rfl, ?_⟩
            have hr := HR.out
            rw [if_neg (show ¬ (mid < e ∧ e < b) by omega), if_neg (show ¬ (a < i ∧ i < mid) by omega), symRot, if_neg (show ¬ (i < m ∧ m < e) by omega)] at hr
            rw [hr]
            exact S1.out
        · skip
          have z1 : ¬ (i : Int) < (m : Int) := by omega
          have z1d : decide ((i : Int) < (m : Int)) = false := decide_eq_false z1
          have z0 : ¬ (m : Int) < (e : Int) := by omega
          have z0d : decide ((m : Int) < (e : Int)) = false := decide_eq_false z0
          have z2 : ¬ (i : Int) < (mid : Int) := by omega
          have z2d : decide ((i : Int) < (mid : Int)) = false := decide_eq_false z2
          by_cases q131 : a < i
          · skip
            have z3 : (a : Int) < (i : Int) := by omega
            have z3d : decide ((a : Int) < (i : Int)) = true := decide_eq_true z3
            have z5 : ¬ (mid : Int) < (e : Int) := by omega
            have z5d : decide ((mid : Int) < (e : Int)) = false := decide_eq_false z5
            go_wp2
            go_end0
            refine ⟨rfl, ?_⟩
            have hr := HR.out
            rw [if_neg (show ¬ (mid < e ∧ e < b) by omega), if_neg (show ¬ (a < i ∧ i < mid) by omega), symRot, if_neg (show ¬ (i < m ∧ m < e) by omega)] at hr
            rw [hr]
            exact S1.out
          · skip
            have z3 : ¬ (a : Int) < (i : Int) := by omega
            have z3d : decide ((a : Int) < (i : Int)) = false := decide_eq_false z3
            have z5 : ¬ (mid : Int) < (e : Int) := by omega
            have z5d : decide ((mid : Int) < (e : Int)) = false := decide_eq_false z5
            go_wp2
            go_end0
            refine ⟨rfl, ?_⟩
            have hr := HR.out
            rw [if_neg (show ¬ (mid < e ∧ e < b) by omega), if_neg (show ¬ (a < i ∧ i < mid) by omega), symRot, if_neg (show ¬ (i < m ∧ m < e) by omega)] at hr
            rw [hr]
            exact S1.out

theorem symMerge_calls (enc : α → Value) (cf : α → α → Int) (g : Nat) (cb : Array Value) (blk off cap : Nat) (d0 : Array α) (w0 : World)
    (eg : ∀ args w, (callFunc g args).run Try.prog w = .ok (.enter g args) w) (hcmp : CmpLays1 Try.prog g cb enc cf blk off d0.size w0)
    (R : Row1 enc w0 blk off d0) (hsz : d0.size < 4611686018427387904) : ∀ (f a m b : Nat) (d : Array α) (w : World), b - a ≤ f → a < m → m < b → b ≤ d0.size → d.size = d0.size → SW enc w0 blk off d w →
      Calls Try.prog 65 #[.slice (some ⟨blk, off, none⟩) d0.size cap, .int .i64 a, .int .i64 m, .int .i64 b, .func (.func g) #[] cb] w fun e w' => e = .returned (.tuple #[]) ∧ SW enc w0 blk off (symMerge (ltOf cf) f d a m b) w' := by
  intro f
  induction f with
  | zero => intro a m b d w h1 h2 h3; omega
  | succ f ih =>
    intro a m b d w hf ham hmb hb hs S
    by_cases c1 : m - a = 1
    · rw [symMerge, if_pos c1]
      exact sym_one enc cf g cb blk off cap a m b d0 d w0 w eg hcmp R hs S (by omega) hmb hb hsz
    · by_cases c2 : b - m = 1
      · rw [symMerge, if_neg c1, if_pos c2]
        exact sym_last enc cf g cb blk off cap a m b d0 d w0 w eg hcmp R hs S (by omega) (by omega) hb hsz
      · by_cases c3 : (a + b) / 2 < m
        · exact sym_hi enc cf g cb blk off cap f a m b d0 d w0 w eg hcmp R hs S hf (by omega) (by omega) hb hsz ih c3
        · exact sym_lo enc cf g cb blk off cap f a m b d0 d w0 w eg hcmp R hs S hf (by omega) (by omega) hb hsz ih (by omega)
end Go.Proofs.Ytjcfhgpaipbedaa.St
