/- act and its reference: rounding, narrowing, gates, tables. -/
import Derived.Test.YtjcfhgpaipbedaaA5
import Derived.Test.YtjcfhgpaipbedaaA7
namespace Go.Proofs.Ytjcfhgpaipbedaa.Pure
set_option linter.unusedSimpArgs false
set_option linter.unusedVariables false
set_option linter.unusedSectionVars false
open Go.RowKit Go.Proofs.YtjcfhgpaipbedaaW.PrintWords Go.Proofs.YtjcfhgpaipbedaaW.PrintLast Go.Proofs.YtjcfhgpaipbedaaW.PrintMore Go.Proofs.Ytjcfhgpaipbedaa.A Go.Proofs.Ytjcfhgpaipbedaa.St

theorem ev_pos {α : Type} {c : Prop} [Decidable c] {A B : Nat → Option α} {r : α} (h : c) (e : Ev A r) : Ev (fun k => if c then A k else B k) r := by
  refine Ev.congr (fun k => ?_) e
  rw [if_pos h]
theorem ev_neg {α : Type} {c : Prop} [Decidable c] {A B : Nat → Option α} {r : α} (h : ¬ c) (e : Ev B r) : Ev (fun k => if c then A k else B k) r := by
  refine Ev.congr (fun k => ?_) e
  rw [if_neg h]
theorem ev_some {α β : Type} {a : α} {f : Nat → α → Option β} {r : β} (e : Ev (fun k => f k a) r) : Ev (fun k => (some a).bind fun y => f k y) r := e
theorem ev_is {α β : Type} {o : Option α} {a : α} {f : Nat → α → Option β} {r : β} (h : o = some a) (e : Ev (fun k => f k a) r) : Ev (fun k => o.bind fun y => f k y) r := by
  subst h; exact e
theorem ev_rounds {α : Type} {g : Nat → Option α} {r : α} (h : Ev g r) : ∃ k, g k = some r := by
  obtain ⟨K, h⟩ := h
  exact ⟨K, h K (Nat.le_refl _)⟩
theorem w64 {x : Int} (h1 : -9223372036854775808 ≤ x) (h2 : x < 9223372036854775808) : wrap64 x = x := by unfold wrap64; omega
theorem w1 (i : Nat) (h : i < 4611686018427387904) : wrap64 ((i : Int) + 1) = ((i + 1 : Nat) : Int) := by rw [w64 (by omega) (by omega)]; omega
theorem rd_nat (l : List Int) (i : Nat) : rd l (i : Int) = l.getD i 0 := by unfold rd; rw [Int.toNat_natCast]
theorem drop_get (l : List Int) (i : Nat) (h : i < l.length) : l.drop i = l.getD i 0 :: l.drop (i + 1) := by
  rw [List.drop_eq_getElem_cons h, List.getD_eq_getElem?_getD, List.getElem?_eq_getElem h]
  rfl

/-! ### shifts -/
theorem and1 (x : Int) : Go.bits .and .i64 x 1 = x % 2 := by
  unfold Go.bits
  simp only [BitVec.toNat_and, BitVec.toNat_ofInt]
  rw [IntKind.wrap_i64]
  have h1 : ((1 : Int) % ((2 ^ IntKind.i64.bits : Nat) : Int)).toNat = 1 := by decide
  rw [h1, Nat.and_one_is_mod]
  have h2 : ((2 ^ IntKind.i64.bits : Nat) : Int) = 18446744073709551616 := by decide
  rw [h2]
  omega
theorem near_ev (n d : Int) (hd : 1 ≤ d) : ∃ v, fixed_Near.f n d = some (v, 0) ∧ r02_Near.f n d = some (v, 0) := by
  have hf : r02_Floor.f n d = fixed_Floor.f n d := rfl
  obtain ⟨a, b, h⟩ : ∃ a b, fixed_Floor.f n d = some (a, b, 0) := by
    unfold fixed_Floor.f
    rw [if_neg (by omega), if_neg (by omega)]
    split
    · exact ⟨_, _, rfl⟩
    · exact ⟨_, _, rfl⟩
  unfold fixed_Near.f r02_Near.f
  rw [hf, h]
  simp only [Option.bind_some, if_true]
  by_cases c1 : b > wrap64 (d - b)
  · rw [if_pos c1, if_pos c1]; exact ⟨_, rfl, rfl⟩
  rw [if_neg c1, if_neg c1]
  by_cases c2 : b = wrap64 (d - b)
  · rw [if_pos c2, if_pos c2, and1]
    have hm : Int.tmod a 2 = 0 ↔ a % 2 = 0 := ⟨fun h => Int.emod_eq_zero_of_dvd (Int.dvd_of_tmod_eq_zero h), fun h => Int.tmod_eq_zero_of_dvd (Int.dvd_of_emod_eq_zero h)⟩
    by_cases c3 : a % 2 = 1
    · rw [if_pos c3, if_neg (by rw [hm]; omega)]; exact ⟨_, rfl, rfl⟩
    · rw [if_neg c3, if_pos (by rw [hm]; omega)]; exact ⟨_, rfl, rfl⟩
  · rw [if_neg c2, if_neg c2]; exact ⟨_, rfl, rfl⟩
def nearL (n d : Int) : Int := ((fixed_Near.f n d).getD (0, 0)).1
theorem near_own (n d : Int) (hd : 1 ≤ d) : fixed_Near.f n d = some (nearL n d, 0) := by
  obtain ⟨v, h, _⟩ := near_ev n d hd
  unfold nearL
  rw [h]; rfl
theorem near_ref (n d : Int) (hd : 1 ≤ d) : r02_Near.f n d = some (nearL n d, 0) := by
  obtain ⟨v, h, h2⟩ := near_ev n d hd
  unfold nearL
  rw [h, h2]; rfl
def roundL (n : Int) (s : Nat) : Int := nearL n ((2 ^ s : Nat) : Int)
theorem shl1 : ∀ s : Fin 63, shl .i64 1 ((s.1 : Nat) : Int) = ((2 ^ s.1 : Nat) : Int) := by decide +kernel
theorem own_round (n : Int) (s : Nat) (hs : s ≤ 62) : fixed_Round.f n (s : Int) = some (roundL n s, 0) := by
  unfold fixed_Round.f
  rw [if_neg (by omega), if_neg (by omega), if_pos (by omega), shl1 ⟨s, by omega⟩, near_own _ _ (by have := Nat.two_pow_pos s; show (1 : Int) ≤ ((2 ^ s : Nat) : Int); omega)]
  rfl
theorem pow31 (i : Nat) (h : i ≤ 62) : ((2 ^ i : Nat) : Int) ≤ 4611686018427387904 := by
  have h2 : 2 ^ i ≤ 2 ^ 62 := Nat.pow_le_pow_right (n := 2) (by decide) h
  have e : (2 : Nat) ^ 62 = 4611686018427387904 := by decide
  rw [e] at h2
  exact Int.ofNat_le.2 h2
theorem round_l (n : Int) (s : Nat) (hs : s ≤ 62) : ∀ (d i : Nat), s - i = d → i ≤ s → Ev (fun k => r02_Round.l0 k n (s : Int) ((2 ^ i : Nat) : Int) (i : Int)) (roundL n s, 0)
  | d, i, hd, hi => by
    refine Ev.step (fun k => by rw [r02_Round.l0]) ?_
    by_cases c : i < s
    · obtain ⟨d, rfl⟩ : ∃ e, d = e + 1 := ⟨d - 1, by omega⟩
      have hp2 := pow31 (i + 1) (by omega)
      have h0 : (0 : Int) ≤ ((2 ^ i : Nat) : Int) := Int.natCast_nonneg _
      have hp : ((2 ^ i : Nat) : Int) * 2 = ((2 ^ (i + 1) : Nat) : Int) := by rw [Nat.pow_succ]; omega
      rw [w1 i (by omega), w64 (x := ((2 ^ i : Nat) : Int) * 2) (by omega) (by omega), hp]
      exact ev_pos (by omega) (round_l n s hs d (i + 1) (by omega) (by omega))
    · obtain rfl : i = s := by omega
      refine ev_neg (by omega) (ev_is (near_ref n _ (by have := Nat.two_pow_pos i; omega)) (Ev.now _))
theorem ref_round (n : Int) (s : Nat) (hs : s ≤ 62) : Ev (fun k => r02_Round.f k n (s : Int)) (roundL n s, 0) := by
  unfold r02_Round.f
  refine ev_neg (by omega) ?_
  rw [decide_eq_false (by omega)]
  refine Ev.step (fun k => by rw [r02_Round.j0]) ?_
  exact ev_neg (by decide) (round_l n s hs _ 0 rfl (Nat.zero_le _))


theorem own_round_e (n s : Int) (h : s < 0 ∨ s > 62) : fixed_Round.f n s = some (0, 20) := by
  unfold fixed_Round.f
  by_cases c : s < 0
  · rw [if_pos c]
  · rw [if_neg c, if_pos (by omega)]
theorem ref_round_e (n s : Int) (h : s < 0 ∨ s > 62) : Ev (fun k => r02_Round.f k n s) (0, 20) := by
  unfold r02_Round.f
  by_cases c : s < 0
  · refine ev_pos c (Ev.step (fun k => by rw [r02_Round.j0]) ?_)
    exact ev_pos rfl (Ev.now _)
  · refine ev_neg c ?_
    rw [decide_eq_true (by omega)]
    refine Ev.step (fun k => by rw [r02_Round.j0]) ?_
    exact ev_pos rfl (Ev.now _)

/-! ### 8 bits -/
def narrowL (y : Int) : Int := IntKind.i8.wrap (if y < -127 then -127 else if y > 127 then 127 else y)
theorem own_narrow (y : Int) : fixed_Narrow.f y = some (narrowL y) := by
  unfold fixed_Narrow.f fixed_Clamp.f narrowL
  split
  · rfl
  · split <;> rfl
theorem ref_narrow (y : Int) : r02_Narrow.f y = some (narrowL y) := own_narrow y
theorem act_nar (x : Int) (s : Nat) (hs : s ≤ 62) : act_narrow.f x (s : Int) = some (narrowL (roundL x s)) := by
  unfold act_narrow.f
  rw [own_round x s hs]
  show (fixed_Narrow.f (roundL x s)).bind _ = _
  rw [own_narrow]
  rfl

/-! ### the same lists -/
theorem same8_l (l : List Int) (hl : l.length < 4611686018427387904) : ∀ (d i : Nat), l.length - i = d → i ≤ l.length → Ev (fun k => w12_same_int8.l0 k l l (l.length : Int) (i : Int)) true
  | d, i, hd, hi => by
    refine Ev.step (fun k => by rw [w12_same_int8.l0]) ?_
    by_cases c : i < l.length
    · obtain ⟨d, rfl⟩ : ∃ e, d = e + 1 := ⟨d - 1, by omega⟩
      rw [w1 i (by omega)]
      exact ev_pos (by omega) (ev_pos (by omega) (ev_pos (by omega) (ev_pos (by omega) (ev_pos rfl (same8_l l hl d (i + 1) (by omega) (by omega))))))
    · exact ev_neg (by omega) (Ev.now _)
theorem same8 (l : List Int) (hl : l.length < 4611686018427387904) : Ev (fun k => w12_same_int8.f k l l) true := by
  unfold w12_same_int8.f
  exact ev_pos rfl (same8_l l hl _ 0 rfl (Nat.zero_le _))

/-! ### gates -/
def fG (bend : List Int) (g u : Int) : Int := narrowL (roundL (wrap64 (wrap64 (bend.getD (g % 256).toNat 0) * wrap64 u)) 6)
def gateL (bend gate up : List Int) : List Int × Int :=
  if bend.length ≠ 256 then ([], 120) else if gate.length > 1048576 ∨ up.length > 1048576 then ([], 81) else if gate.length ≠ up.length then ([], 80) else (List.zipWith (fG bend) gate up, 0)
def I8 (l : List Int) : Prop := ∀ x ∈ l, -128 ≤ x ∧ x ≤ 127
theorem getD_mem (l : List Int) (i : Nat) (h : i < l.length) : l.getD i 0 ∈ l := by
  rw [List.getD_eq_getElem?_getD, List.getElem?_eq_getElem h]
  exact List.getElem_mem h
theorem getE (l : List Int) (i : Nat) (h : i < l.length) : l.getD i 0 = l[i] := by rw [List.getD_eq_getElem?_getD, List.getElem?_eq_getElem h]; rfl
theorem take_set (L : List Int) (i : Nat) (v : Int) (h : i < L.length) : (L.set i v).take (i + 1) = L.take i ++ [v] := by
  rw [List.take_succ_eq_append_getElem (by rw [List.length_set]; exact h), List.take_set_of_le (Nat.le_refl _), List.getElem_set_self]
theorem zip_take (f : Int → Int → Int) (a b : List Int) (i : Nat) (h1 : i < a.length) (h2 : i < b.length) : (List.zipWith f a b).take (i + 1) = (List.zipWith f a b).take i ++ [f (a.getD i 0) (b.getD i 0)] := by
  have h : i < (List.zipWith f a b).length := by rw [List.length_zipWith]; omega
  rw [List.take_succ_eq_append_getElem h, List.getElem_zipWith, getE a i h1, getE b i h2]
theorem own_gate_l (bend gate up : List Int) (hb : bend.length = 256) (hg : gate.length ≤ 1048576) (hl : gate.length = up.length) : ∀ (d i : Nat) (L : List Int), gate.length - i = d → i ≤ gate.length → L.length = gate.length → L.take i = (List.zipWith (fG bend) gate up).take i →
    Ev (fun k => act_Gate.l0 k bend up L gate (gate.length : Int) (i : Int)) (List.zipWith (fG bend) gate up, 0)
  | d, i, L, hd, hi, hL, ht => by
    refine Ev.step (fun k => by rw [act_Gate.l0]) ?_
    by_cases c : i < gate.length
    · obtain ⟨d, rfl⟩ : ∃ e, d = e + 1 := ⟨d - 1, by omega⟩
      rw [rd_nat, rd_nat, w1 i (by omega), Int.toNat_natCast]
      have hm : 0 ≤ gate.getD i 0 % 256 ∧ gate.getD i 0 % 256 < 256 := by omega
      refine ev_pos (by omega) (ev_pos (by omega) (ev_pos (by omega) (ev_pos hm.1 (ev_pos (by omega) (ev_pos (by omega) (ev_is (act_nar _ 6 (by omega)) (ev_pos (by omega) ?_)))))))
      refine own_gate_l bend gate up hb hg hl d (i + 1) _ (by omega) (by omega) (by rw [List.length_set]; exact hL) ?_
      rw [take_set L i _ (by omega), zip_take _ _ _ i c (by omega), ht]
      rfl
    · obtain rfl : i = gate.length := by omega
      have e : L = List.zipWith (fG bend) gate up := by
        rw [List.take_of_length_le (by omega), List.take_of_length_le (by rw [List.length_zipWith]; omega)] at ht
        exact ht
      rw [e]
      exact ev_neg (by omega) (Ev.now _)
theorem own_gate (bend gate up : List Int) : Ev (fun k => act_Gate.f k bend gate up) (gateL bend gate up) := by
  unfold act_Gate.f gateL
  by_cases c1 : bend.length = 256
  · rw [if_neg (by omega)]
    refine ev_pos (by omega) ?_
    have bad : gate.length > 1048576 ∨ up.length > 1048576 → Ev (fun k => act_Gate.j0 k bend gate up true) (if gate.length > 1048576 ∨ up.length > 1048576 then ([], 81) else if gate.length ≠ up.length then ([], 80) else (List.zipWith (fG bend) gate up, 0)) := by
      intro h
      rw [if_pos h]
      refine Ev.step (fun k => by rw [act_Gate.j0]) ?_
      exact ev_pos rfl (Ev.now _)
    by_cases c2 : gate.length > 1048576
    · exact ev_pos (by omega) (bad (Or.inl c2))
    refine ev_neg (by omega) ?_
    by_cases c3 : up.length > 1048576
    · rw [decide_eq_true (by omega)]
      exact bad (Or.inr c3)
    rw [decide_eq_false (by omega), if_neg (by omega)]
    refine Ev.step (fun k => by rw [act_Gate.j0]) ?_
    refine ev_neg (by decide) ?_
    by_cases c4 : gate.length = up.length
    · rw [if_neg (by omega)]
      refine ev_pos (by omega) (ev_pos (by omega) (ev_pos (by rw [Int.toNat_natCast]; omega) ?_))
      exact own_gate_l bend gate up c1 (by omega) c4 _ 0 _ rfl (Nat.zero_le _) (by rw [List.length_replicate, Int.toNat_natCast]) (by rw [List.take_zero, List.take_zero])
    · rw [if_pos c4]
      exact ev_neg (by omega) (Ev.now _)
  · rw [if_pos c1]
    exact ev_neg (by omega) (Ev.now _)
theorem ref_gate_l (bend gate up : List Int) (hb : bend.length = 256) (hg : gate.length ≤ 1048576) (hl : gate.length = up.length) (h8 : I8 gate) : ∀ (d i : Nat), gate.length - i = d → i ≤ gate.length →
    Ev (fun k => r12_Gate.l0 k bend up ((List.zipWith (fG bend) gate up).take i) gate (gate.length : Int) (i : Int)) (List.zipWith (fG bend) gate up, 0)
  | d, i, hd, hi => by
    refine Ev.step (fun k => by rw [r12_Gate.l0]) ?_
    by_cases c : i < gate.length
    · obtain ⟨d, rfl⟩ : ∃ e, d = e + 1 := ⟨d - 1, by omega⟩
      have hgo := ref_gate_l bend gate up hb hg hl h8 d (i + 1) (by omega) (by omega)
      rw [zip_take _ _ _ i c (by omega)] at hgo
      have hx := h8 _ (getD_mem gate i c)
      have hlz : ((List.zipWith (fG bend) gate up).take i).length < 140737488355328 := by rw [List.length_take]; omega
      rw [rd_nat, w64 (x := gate.getD i 0) (by omega) (by omega), rd_nat up i, w1 i (by omega)]
      refine ev_pos (by omega) (ev_pos (by omega) (ev_pos (by omega) ?_))
      unfold fG at hgo
      by_cases s : gate.getD i 0 < 0
      · have e : gate.getD i 0 % 256 = gate.getD i 0 + 256 := by omega
        rw [e] at hgo
        rw [w64 (x := gate.getD i 0 + 256) (by omega) (by omega)]
        have r : rd bend (gate.getD i 0 + 256) = bend.getD (gate.getD i 0 + 256).toNat 0 := rfl
        rw [r]
        exact ev_pos s (ev_pos (by omega) (ev_pos (by omega) (ev_pos (by omega) (Ev.bind (ref_round _ 6 (by omega)) (ev_is (ref_narrow _) (ev_pos hlz hgo))))))
      · have e : gate.getD i 0 % 256 = gate.getD i 0 := by omega
        rw [e] at hgo
        have r : rd bend (gate.getD i 0) = bend.getD (gate.getD i 0).toNat 0 := rfl
        rw [r]
        exact ev_neg s (ev_pos (by omega) (ev_pos (by omega) (ev_pos (by omega) (Ev.bind (ref_round _ 6 (by omega)) (ev_is (ref_narrow _) (ev_pos hlz hgo))))))
    · obtain rfl : i = gate.length := by omega
      rw [List.take_of_length_le (by rw [List.length_zipWith]; omega)]
      exact ev_neg (by omega) (Ev.now _)
theorem ref_gate (bend gate up : List Int) (h8 : I8 gate) : Ev (fun k => r12_Gate.f k bend gate up) (gateL bend gate up) := by
  unfold r12_Gate.f gateL
  by_cases c1 : bend.length = 256
  · rw [if_neg (by omega)]
    refine ev_pos (by omega) ?_
    have bad : gate.length > 1048576 ∨ up.length > 1048576 → Ev (fun k => r12_Gate.j0 k bend gate up true) (if gate.length > 1048576 ∨ up.length > 1048576 then ([], 81) else if gate.length ≠ up.length then ([], 80) else (List.zipWith (fG bend) gate up, 0)) := by
      intro h
      rw [if_pos h]
      refine Ev.step (fun k => by rw [r12_Gate.j0]) ?_
      exact ev_pos rfl (Ev.now _)
    by_cases c2 : gate.length > 1048576
    · exact ev_pos (by omega) (bad (Or.inl c2))
    refine ev_neg (by omega) ?_
    by_cases c3 : up.length > 1048576
    · rw [decide_eq_true (by omega)]
      exact bad (Or.inr c3)
    rw [decide_eq_false (by omega), if_neg (by omega)]
    refine Ev.step (fun k => by rw [r12_Gate.j0]) ?_
    refine ev_neg (by decide) ?_
    by_cases c4 : gate.length = up.length
    · rw [if_neg (by omega)]
      exact ev_pos (by omega) (ref_gate_l bend gate up c1 (by omega) c4 h8 _ 0 rfl (Nat.zero_le _))
    · rw [if_pos c4]
      exact ev_neg (by omega) (Ev.now _)
  · rw [if_pos c1]
    exact ev_neg (by omega) (Ev.now _)
theorem gateL_len (bend gate up : List Int) : (gateL bend gate up).1.length ≤ 1048576 := by
  unfold gateL
  split
  · exact Nat.zero_le _
  split
  · exact Nat.zero_le _
  split
  · exact Nat.zero_le _
  · rw [List.length_zipWith]; omega
theorem wf8 {x : Int} (h : (Lit.int .i8 x).wf = true) : -128 ≤ x ∧ x ≤ 127 := by
  have h' : (decide (IntKind.i8.min ≤ x) && decide (x ≤ IntKind.i8.max)) = true := h
  rw [Bool.and_eq_true, decide_eq_true_eq, decide_eq_true_eq] at h'
  exact h'
set_option maxRecDepth 100000 in
theorem awake : Ev (fun k => w12_awake.f k) true := by
  have h : w12_awake.f 60 = some true := by kernel_rfl
  refine ⟨60, fun k hk => ?_⟩
  obtain ⟨d, rfl⟩ : ∃ d, k = 60 + d := ⟨k - 60, by omega⟩
  clear hk
  induction d with
  | zero => exact h
  | succ d ih => exact w12_awake.mono _ _ ih
end Go.Proofs.Ytjcfhgpaipbedaa.Pure
