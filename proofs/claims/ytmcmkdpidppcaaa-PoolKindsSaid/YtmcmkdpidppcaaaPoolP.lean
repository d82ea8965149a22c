/- PoolKinds: the law's walk. -/
import Derived.Test.YtmcmkdpidppcaaaKindS
import Derived.Test.YtmcmkdpidppcaaaKindT
import Derived.Test.YtmcmkdpidppcaaaPoolL
namespace Go.Proofs.Ytmcmkdpidppcaaa.St
open Go.Proofs Go.RowKit Go.Proofs.YtmcmkdpidppcaaaW.PrintWords Go.Proofs.YtmcmkdpidppcaaaW.PrintLast Go.Proofs.YtmcmkdpidppcaaaW.PrintMore Go.Proofs.Ytmcmkdpidppcaaa.A Go.Proofs.Ytmcmkdpidppcaaa.Pure
theorem fallTo_last (n i : Nat) (h : i < n) : (fallTo n i) = fallTo n (i + 1) ++ [(i : Int)] := fallTo_succ n i h
/-- What the places have behind i rounds. -/
def kindL {α : Type} (z : α) (f : Nat → α) (n i : Nat) : List (Bool × α) := (List.range n).map fun j => if j < i then (true, f j) else (false, z)
section
variable {α : Type} {z : α} {f : Nat → α} {n i : Nat}
theorem kindL_len : (kindL z f n i).length = n := by unfold kindL; rw [List.length_map, List.length_range]
theorem kindL_zero : kindL z f n 0 = List.replicate n (false, z) := by
  apply List.ext_getElem?
  intro j
  unfold kindL
  rw [List.getElem?_map, List.getElem?_replicate]
  by_cases c : j < n
  · rw [List.getElem?_range c, if_pos c]
    simp
  · rw [List.getElem?_eq_none (by rw [List.length_range]; omega), if_neg c]
    rfl
theorem kindL_set (h : i < n) : (kindL z f n i).set i (true, f i) = kindL z f n (i + 1) := by
  apply List.ext_getElem?
  intro j
  rw [List.getElem?_set, kindL_len]
  by_cases c : i = j
  · subst c
    rw [if_pos rfl, if_pos h]
    unfold kindL
    rw [List.getElem?_map, List.getElem?_range h]
    simp
  · rw [if_neg c]
    unfold kindL
    rw [List.getElem?_map, List.getElem?_map]
    by_cases c2 : j < n
    · rw [List.getElem?_range c2]
      simp only [Option.map_some]
      by_cases c3 : j < i
      · rw [if_pos c3, if_pos (by omega)]
      · rw [if_neg c3, if_neg (by omega)]
    · rw [List.getElem?_eq_none (by rw [List.length_range]; omega)]
      rfl
theorem kindL_get (j : Nat) (h : j < n) (hj : j < i) : (kindL z f n i)[j]? = some (true, f j) := by
  unfold kindL
  rw [List.getElem?_map, List.getElem?_range h]
  simp [hj]
theorem kindL_none (j : Nat) (hj : i ≤ j) : ((kindL z f n i).getD j (false, z)).1 = false := by
  rw [List.getD_eq_getElem?_getD]
  unfold kindL
  rw [List.getElem?_map]
  by_cases c : j < n
  · rw [List.getElem?_range c]
    simp only [Option.map_some, Option.getD_some]
    rw [if_neg (by omega)]
  · rw [List.getElem?_eq_none (by rw [List.length_range]; omega)]
    rfl
end
/-- What the second pool is given. -/
def sgl (j : Nat) : Int × Bool × Int × Int := (0, ((j : Int).tmod 2 == 1), (j : Int), 0)
theorem neS (s : Bool) (j : Int) (W : World) : (binOp .neq 31 (.agg #[.int .i64 0, .bool s, .int .i64 j, .int .i64 0]) (.agg #[.int .i64 0, .bool s, .int .i64 j, .int .i64 0])).run Try.prog W = .ok (.bool false) W := by
  have h : (Op.equalIn 10000 31 (.agg #[.int .i64 0, .bool s, .int .i64 j, .int .i64 0]) (.agg #[.int .i64 0, .bool s, .int .i64 j, .int .i64 0])).run Try.prog W = .ok ((0 : Int) == 0 && (s == s && (j == j && (0 : Int) == 0))) W := by
    refine eqA_of (d := 9999) Try.underlying31 (by kernel_rfl) ?_
    refine eqf_cons (by rfl) (by go_simp; rfl) (by go_simp; rfl) (by go_simp) ?_
    refine eqf_cons (by rfl) (by go_simp; rfl) (by go_simp; rfl) (by go_simp) ?_
    refine eqf_cons (by rfl) (by go_simp; rfl) (by go_simp; rfl) (by go_simp) ?_
    exact eqf_last (by rfl) (by go_simp; rfl) (by go_simp; rfl) (by go_simp)
  rw [run_neq_struct, h]
  simp
/-- Two pools, behind i rounds. -/
def Kinds (n0 : Nat) (W : World) (n bp : Nat) (vsp vfp : Value) (bq : Nat) (vsq vfq : Value) (ts : List ByteArray) (i : Nat) : Prop :=
  Ss.PoolAt n0 W bp vsp vfp (kindL ByteArray.empty (fun j => ts.getD j ByteArray.empty) n i) (fallTo n i) ∧ Sg.PoolAt n0 W bq vsq vfq (kindL (0, false, 0, 0) sgl n i) (fallTo n i) ∧ ∀ k, Foot bp vsp vfp k → ¬ Foot bq vsq vfq k
set_option maxRecDepth 100000 in
set_option maxHeartbeats 4000000 in
theorem kinds_yes (n : Nat) (hn : 1 ≤ n ∧ n ≤ 65536) (A : Option Addr) (c : Nat) (ts : List ByteArray) (w : World) (hO : ∀ j, j < ts.length → ∃ ad, A = some ad ∧ w.cell? (ad.add j) = some (.string (ts.getD j ByteArray.empty))) (hl : ts.length ≤ 17592186044415) :
    Calls Try.prog 3 #[.int .i64 (n : Int), .slice A ts.length c] w fun e w' => e = .returned (.bool true) ∧ Below w.heap.size w w' := by
  have HO := Aside0.mk hO
  have HL := Go.Lib.hid hl
  have HN := Go.Lib.hid hn
  obtain ⟨K, hK⟩ := new_ref n hn
  have hk0 := hK K (Nat.le_refl _)
  have hnp := Aside0.mk (Ss.new_calls n hn w)
  have hnq := Aside0.mk (fun W => Sg.new_calls n hn W)
  clear hO hl hn hK
  go_enter Try.func3, Try.ntmps3
  go_wp2_with (first
    | (go_at_call 9; refine hnp.out.mono ?_; rintro e w1 ⟨bp, vsp, vfp, rfl, hP, hB1⟩; have H1 := Aside0.mk (And.intro hP hB1); clear hP hB1 hnp; have eqq := Ss.eqp ⟨bp, 0, none⟩)
    | (go_at_call 10; refine (hnq.out w1).mono ?_; rintro e w2 ⟨bq, vsq, vfq, rfl, hP, hB1⟩; have H2 := Aside0.mk (And.intro hP hB1); clear hP hB1 hnq; have eqr := Sg.eqp ⟨bq, 0, none⟩)
    | (go_at_call 11; refine (r05_New.calls K (n : Int) _ _ w2 hk0).mono ?_; rintro e w3 ⟨lv, rfl, hR, hB2⟩; have H3 := Aside0.mk hB2; clear hR hB2)
    | (go_at_call 12; refine (awake_calls w3).mono ?_; rintro e w4 ⟨rfl, hB3⟩; have H4 := Aside0.mk hB3; clear hB3))
  have S0 : Aside0 (Kinds w.heap.size w4 n bp vsp vfp bq vsq vfq ts 0 ∧ Below w.heap.size w w4) := by
    have a1 := H1.out.2
    have a2 := H2.out.2
    have a3 := H3.out
    have a4 := H4.out
    have s1 := a1.size
    have s2 := a2.size
    have s3 := a3.size
    refine ⟨⟨?_, ?_, fun k h1 h2 => ?_⟩, ((a1.trans (a2.mono s1)).trans (a3.mono (by omega))).trans (a4.mono (by omega))⟩
    · rw [kindL_zero]
      exact ((H1.out.1.kept a2).kept a3).kept a4
    · rw [kindL_zero]
      exact ((H2.out.1.kept a3).kept a4).lower s1
    · have := (H1.out.1.foot k h1).2
      have := (H2.out.1.foot k h2).1
      omega
  clear H1 H2 H3 H4
  go_loopg [11] (ts.length + 1) (fun kx s11 wr => ∃ (i : Nat) (vfp vfq : Value), s11 = .int .i64 (i : Int) ∧ Hid (i ≤ ts.length ∧ i ≤ n ∧ ts.length < i + kx) ∧ Aside0 (Kinds w.heap.size wr n bp vsp vfp bq vsq vfq ts i ∧ Below w.heap.size w wr))
  case atStart => exact ⟨0, vfp, vfq, rfl, ⟨Nat.zero_le _, Nat.zero_le _, by omega⟩, S0⟩
  case round =>
    clear S0
    obtain ⟨i, vfp1, vfq1, rfl, hi, H1⟩ := hrel
    by_cases ci : i < ts.length ∧ i < n
    · obtain ⟨c1, c2⟩ := ci
      obtain ⟨ad, rfl, hg0⟩ := HO.out i c1
      have hg1 := (H1.out.2.cell (World.block_lt_of_cell? w _ hg0)).trans hg0
      obtain ⟨x, ex⟩ : ∃ x, x = ts.getD i ByteArray.empty := ⟨_, rfl⟩
      rw [← ex] at hg1
      have HP : Aside0 (Ss.PoolAt w.heap.size wr bp vsp vfp1 (kindL ByteArray.empty (fun j => ts.getD j ByteArray.empty) n i) (fallTo n (i + 1) ++ [(i : Int)])) := ⟨by rw [← fallTo_succ n i c2]; exact H1.out.1.1⟩
      have HQ : Aside0 (Sg.PoolAt w.heap.size wr bq vsq vfq1 (kindL (0, false, 0, 0) sgl n i) (fallTo n (i + 1) ++ [(i : Int)])) := ⟨by rw [← fallTo_succ n i c2]; exact H1.out.1.2.1⟩
      have hF : (fallTo n (i + 1)).length < 65536 := by rw [fallTo_len]; have := HN.out; omega
      have HC : Aside0 ((i < (kindL ByteArray.empty (fun j => ts.getD j ByteArray.empty) n i).length ∧ i < (kindL ((0, false, 0, 0) : Int × Bool × Int × Int) sgl n i).length) ∧ (fallTo n (i + 1)).length < 65536) := ⟨⟨by rw [kindL_len]; exact c2, by rw [kindL_len]; exact c2⟩, hF⟩
      have HX := Aside0.mk ex
      have z1 : decide ((i : Int) < (ts.length : Int)) = true := decide_eq_true (by omega)
      have z2 : decide ((i : Int) < (n : Int)) = true := decide_eq_true (by omega)
      have z3 : 0 ≤ (i : Int) := by omega
      have z4 : (i : Int) < (ts.length : Int) := by omega
      have z6 : (i : Int) < (n : Int) := by omega
      have z5 : wrap64 ((i : Int) + 1) = ((i + 1 : Nat) : Int) := by have := HL.out; unfold wrap64; omega
      have CI := Go.Lib.hid (And.intro c1 c2)
      clear c1 c2 hF hg0 ex
      go_wp2_with (first
        | (go_at_call 13; refine (Ss.take_calls HP.out HC.out.1.1 HC.out.2 x).mono ?_; rintro e w5 ⟨vfp5, rfl, hP5, hK5, hown5, hB5⟩; have H5 := Aside0.mk (And.intro (And.intro hP5 hK5) (And.intro hown5 hB5)); have HQ5 := Aside0.mk (HQ.out.keptS hK5 (fun k h1 h2 => H1.out.1.2.2 k h2 h1)); clear hP5 hK5 hown5 hB5)
        | (go_at_call 14; refine (Sg.take_calls HQ5.out HC.out.1.2 HC.out.2 (sgl i)).mono ?_; rintro e w6 ⟨vfq6, rfl, hP6, hK6, hown6, hB6⟩; have H6 := Aside0.mk (And.intro (And.intro hP6 hK6) (And.intro hown6 hB6)); clear hP6 hK6 hown6 hB6))
      go_roundg (ts.length - i)
      case measure => have := hi.2.2; have := CI.out; omega
      case rel =>
        have hc := CI.out
        refine ⟨i + 1, vfp5, vfq6, congrArg (Value.int .i64) z5, ⟨by omega, by omega, by omega⟩, ⟨⟨?_, ?_, fun k h1 h2 => ?_⟩, (H1.out.2.trans H5.out.2.2).trans H6.out.2.2⟩⟩
        · have h := H5.out.1.1
          rw [HX.out, kindL_set (f := fun j => ts.getD j ByteArray.empty) hc.2] at h
          exact h.keptS H6.out.1.2 (fun k h1 h2 => H1.out.1.2.2 k ((foot_same H5.out.2.1 k).1 h1) h2)
        · have h := H6.out.1.1
          rw [kindL_set hc.2] at h
          exact h
        · exact H1.out.1.2.2 k ((foot_same H5.out.2.1 k).1 h1) ((foot_same H6.out.2.1 k).1 h2)
    · have HI : Hid (i ≤ ts.length ∧ i ≤ n ∧ (ts.length ≤ i ∨ n ≤ i)) := ⟨hi.1, hi.2.1, by omega⟩
      rcases Classical.em (i < ts.length) with c1 | c1
      · have z1 : decide ((i : Int) < (ts.length : Int)) = true := decide_eq_true (by omega)
        have z4 : (i : Int) < (ts.length : Int) := by omega
        have z2 : decide ((i : Int) < (n : Int)) = false := decide_eq_false (by omega)
        have z6 : decide (i < n) = false := decide_eq_false (by omega)
        clear ci c1 hi
        go_wp2
        go_loopg [16] (ts.length + 1) (fun kx s16 wq => ∃ j : Nat, s16 = .int .i64 (j : Int) ∧ Hid (j ≤ ts.length ∧ ts.length < j + kx) ∧ Aside0 (Kinds w.heap.size wq n bp vsp vfp1 bq vsq vfq1 ts i ∧ Below w.heap.size w wq))
        case atStart => exact ⟨0, rfl, ⟨Nat.zero_le _, by omega⟩, H1⟩
        case round =>
          clear H1
          obtain ⟨j, rfl, hj, H1⟩ := hrel
          by_cases cj : j < ts.length ∧ j < n
          · obtain ⟨c1, c2⟩ := cj
            have c3 : j < i := by have := HI.out.2.2; omega
            obtain ⟨ad, rfl, hg0⟩ := HO.out j c1
            have HG0 := Aside0.mk hg0
            obtain ⟨x, ex⟩ : ∃ x, x = ts.getD j ByteArray.empty := ⟨_, rfl⟩
            have hgp := Aside0.mk (Ss.get_calls H1.out.1.1 j (by rw [kindL_len]; exact c2) x (by rw [ex]; exact kindL_get j c2 c3))
            have hgq := Aside0.mk (Sg.get_calls H1.out.1.2.1 j (by rw [kindL_len]; exact c2) (sgl j) (kindL_get j c2 c3))
            have eqS := neS (((j : Int).tmod 2 == 1)) (j : Int)
            have z1 : decide ((j : Int) < (ts.length : Int)) = true := decide_eq_true (by omega)
            have z2 : decide ((j : Int) < (n : Int)) = true := decide_eq_true (by omega)
            have z3 : 0 ≤ (j : Int) := by omega
            have z4 : (j : Int) < (ts.length : Int) := by omega
            have z6 : (j : Int) < (n : Int) := by omega
            have z5 : wrap64 ((j : Int) + 1) = ((j + 1 : Nat) : Int) := by have := HL.out; unfold wrap64; omega
            have CJ := Go.Lib.hid c1
            have EX := Aside0.mk ex
            clear c1 c2 c3 hg0 ex
            go_wp2_with (first
              | (go_at_call 15; refine hgp.out.mono ?_; rintro e w9 ⟨rfl, h9⟩; have h8 := h9.symm; subst h8; clear h9)
              | (go_at_call 16; refine hgq.out.mono ?_; rintro e w6 ⟨rfl, hB6⟩; have H6 := Aside0.mk hB6; have hg6 : ∀ o, (w6.alloc o).cell? (ad.add j) = some (.string x) := (fun o => by rw [EX.out]; exact ((below_alloc (H1.out.2.trans (hB6.mono H1.out.2.size)) o).cell (World.block_lt_of_cell? w _ HG0.out)).trans HG0.out); clear hB6))
            go_roundg (ts.length - j)
            case measure => have := hj.2; have := CJ.out; omega
            case rel => exact ⟨j + 1, congrArg (Value.int .i64) z5, ⟨CJ.out, by have := CJ.out; omega⟩, ⟨⟨(H1.out.1.1.kept H6.out).kept (below_alloc (Below.refl _ _) _), (H1.out.1.2.1.kept H6.out).kept (below_alloc (Below.refl _ _) _), H1.out.1.2.2⟩, below_alloc (H1.out.2.trans (H6.out.mono H1.out.2.size)) _⟩⟩
          · have hgn := Aside0.mk (Ss.get_none H1.out.1.1 ts.length (.inr (kindL_none ts.length HI.out.1)))
            rcases Classical.em (j < ts.length) with c1 | c1
            · have z1 : decide ((j : Int) < (ts.length : Int)) = true := decide_eq_true (by omega)
              have z4 : (j : Int) < (ts.length : Int) := by omega
              have z2 : decide ((j : Int) < (n : Int)) = false := decide_eq_false (by omega)
              have z6 : decide (j < n) = false := decide_eq_false (by omega)
              clear cj c1 hj
              go_wp2_with (go_at_call 15; refine hgn.out.mono ?_; rintro e w9 ⟨rfl, h9⟩; have h8 := h9.symm; subst h8; clear h9)
              go_ret
              exact ⟨rfl, H1.out.2⟩
            · have z1 : decide ((j : Int) < (ts.length : Int)) = false := decide_eq_false (by omega)
              have z2 : decide (j < ts.length) = false := decide_eq_false c1
              clear cj c1 hj
              go_wp2_with (go_at_call 15; refine hgn.out.mono ?_; rintro e w9 ⟨rfl, h9⟩; have h8 := h9.symm; subst h8; clear h9)
              go_ret
              exact ⟨rfl, H1.out.2⟩
      · have z1 : decide ((i : Int) < (ts.length : Int)) = false := decide_eq_false (by omega)
        have z2 : decide (i < ts.length) = false := decide_eq_false c1
        clear ci c1 hi
        go_wp2
        go_loopg [16] (ts.length + 1) (fun kx s16 wq => ∃ j : Nat, s16 = .int .i64 (j : Int) ∧ Hid (j ≤ ts.length ∧ ts.length < j + kx) ∧ Aside0 (Kinds w.heap.size wq n bp vsp vfp1 bq vsq vfq1 ts i ∧ Below w.heap.size w wq))
        case atStart => exact ⟨0, rfl, ⟨Nat.zero_le _, by omega⟩, H1⟩
        case round =>
          clear H1
          obtain ⟨j, rfl, hj, H1⟩ := hrel
          by_cases cj : j < ts.length ∧ j < n
          · obtain ⟨c1, c2⟩ := cj
            have c3 : j < i := by have := HI.out.2.2; omega
            obtain ⟨ad, rfl, hg0⟩ := HO.out j c1
            have HG0 := Aside0.mk hg0
            obtain ⟨x, ex⟩ : ∃ x, x = ts.getD j ByteArray.empty := ⟨_, rfl⟩
            have hgp := Aside0.mk (Ss.get_calls H1.out.1.1 j (by rw [kindL_len]; exact c2) x (by rw [ex]; exact kindL_get j c2 c3))
            have hgq := Aside0.mk (Sg.get_calls H1.out.1.2.1 j (by rw [kindL_len]; exact c2) (sgl j) (kindL_get j c2 c3))
            have eqS := neS (((j : Int).tmod 2 == 1)) (j : Int)
            have z1 : decide ((j : Int) < (ts.length : Int)) = true := decide_eq_true (by omega)
            have z2 : decide ((j : Int) < (n : Int)) = true := decide_eq_true (by omega)
            have z3 : 0 ≤ (j : Int) := by omega
            have z4 : (j : Int) < (ts.length : Int) := by omega
            have z6 : (j : Int) < (n : Int) := by omega
            have z5 : wrap64 ((j : Int) + 1) = ((j + 1 : Nat) : Int) := by have := HL.out; unfold wrap64; omega
            have CJ := Go.Lib.hid c1
            have EX := Aside0.mk ex
            clear c1 c2 c3 hg0 ex
            go_wp2_with (first
              | (go_at_call 15; refine hgp.out.mono ?_; rintro e w9 ⟨rfl, h9⟩; have h8 := h9.symm; subst h8; clear h9)
              | (go_at_call 16; refine hgq.out.mono ?_; rintro e w6 ⟨rfl, hB6⟩; have H6 := Aside0.mk hB6; have hg6 : ∀ o, (w6.alloc o).cell? (ad.add j) = some (.string x) := (fun o => by rw [EX.out]; exact ((below_alloc (H1.out.2.trans (hB6.mono H1.out.2.size)) o).cell (World.block_lt_of_cell? w _ HG0.out)).trans HG0.out); clear hB6))
            go_roundg (ts.length - j)
            case measure => have := hj.2; have := CJ.out; omega
            case rel => exact ⟨j + 1, congrArg (Value.int .i64) z5, ⟨CJ.out, by have := CJ.out; omega⟩, ⟨⟨(H1.out.1.1.kept H6.out).kept (below_alloc (Below.refl _ _) _), (H1.out.1.2.1.kept H6.out).kept (below_alloc (Below.refl _ _) _), H1.out.1.2.2⟩, below_alloc (H1.out.2.trans (H6.out.mono H1.out.2.size)) _⟩⟩
          · have hgn := Aside0.mk (Ss.get_none H1.out.1.1 ts.length (.inr (kindL_none ts.length HI.out.1)))
            rcases Classical.em (j < ts.length) with c1 | c1
            · have z1 : decide ((j : Int) < (ts.length : Int)) = true := decide_eq_true (by omega)
              have z4 : (j : Int) < (ts.length : Int) := by omega
              have z2 : decide ((j : Int) < (n : Int)) = false := decide_eq_false (by omega)
              have z6 : decide (j < n) = false := decide_eq_false (by omega)
              clear cj c1 hj
              go_wp2_with (go_at_call 15; refine hgn.out.mono ?_; rintro e w9 ⟨rfl, h9⟩; have h8 := h9.symm; subst h8; clear h9)
              go_ret
              exact ⟨rfl, H1.out.2⟩
            · have z1 : decide ((j : Int) < (ts.length : Int)) = false := decide_eq_false (by omega)
              have z2 : decide (j < ts.length) = false := decide_eq_false c1
              clear cj c1 hj
              go_wp2_with (go_at_call 15; refine hgn.out.mono ?_; rintro e w9 ⟨rfl, h9⟩; have h8 := h9.symm; subst h8; clear h9)
              go_ret
              exact ⟨rfl, H1.out.2⟩
set_option maxRecDepth 100000 in
set_option maxHeartbeats 2000000 in
theorem kinds_no (n : Int) (hn : n < 1 ∨ 65536 < n) (v : Value) (w : World) :
    Calls Try.prog 3 #[.int .i64 n, v] w fun e w' => e = .returned (.bool true) ∧ Below w.heap.size w w' := by
  obtain ⟨K, hK⟩ := new_ref_no n hn
  have hk0 := hK K (Nat.le_refl _)
  have hnp := Ss.new_no n hn w
  have hnq := Sg.new_no n hn w
  have eqn : ∀ w, (binOp .eql 23 (.pointer none) (.pointer none)).run Try.prog w = .ok (.bool true) w := fun _ => by kernel_rfl
  have eqm : ∀ w, (binOp .eql 27 (.pointer none) (.pointer none)).run Try.prog w = .ok (.bool true) w := fun _ => by kernel_rfl
  clear hn hK
  go_enter Try.func3, Try.ntmps3
  go_wp2_with (first
    | (go_at_call 9; refine hnp.mono ?_; rintro e w9 ⟨rfl, h9⟩; have h8 := h9.symm; subst h8; clear h9)
    | (go_at_call 10; refine hnq.mono ?_; rintro e w9 ⟨rfl, h9⟩; have h8 := h9.symm; subst h8; clear h9)
    | (go_at_call 11; refine (r05_New.calls K n _ _ w hk0).mono ?_; rintro e w3 ⟨lv, rfl, hR, hB2⟩; have H3 := Aside0.mk hB2; clear hR hB2)
    | (go_at_call 12; refine (awake_calls w3).mono ?_; rintro e w4 ⟨rfl, hB3⟩; have H4 := Aside0.mk hB3; clear hB3))
  go_ret
  exact ⟨rfl, H3.out.trans (H4.out.mono H3.out.size)⟩
theorem kinds_calls (n : Int) (A : Option Addr) (c : Nat) (ts : List ByteArray) (w : World) (hO : ∀ j, j < ts.length → ∃ ad, A = some ad ∧ w.cell? (ad.add j) = some (.string (ts.getD j ByteArray.empty))) (hl : ts.length ≤ 17592186044415) :
    Calls Try.prog 3 #[.int .i64 n, .slice A ts.length c] w fun e w' => e = .returned (.bool true) ∧ Below w.heap.size w w' := by
  by_cases h : 1 ≤ n ∧ n ≤ 65536
  · obtain ⟨k, rfl⟩ : ∃ k : Nat, n = (k : Int) := ⟨n.toNat, by omega⟩
    exact kinds_yes k (by omega) A c ts w hO hl
  · exact kinds_no n (by omega) _ w
end Go.Proofs.Ytmcmkdpidppcaaa.St
