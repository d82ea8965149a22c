/- DistBits: a token surprises by 0 just if it has all the weight, and never more the more it weighs; Entropy lies between 0 and all bits, and is not above the greatest surprise. -/
import Derived.Test.YthmckhfjaleomaaStmtDistBits
import Derived.Test.YthmckhfjaleomaaDw7
namespace Go.Proofs.Ythmckhfjaleomaa.Pure
set_option linter.unusedVariables false
set_option linter.unusedSectionVars false
open Go.RowKit Go.Proofs.YthmckhfjaleomaaW.PrintWords Go.Proofs.YthmckhfjaleomaaW.PrintLast Go.Proofs.YthmckhfjaleomaaW.PrintMore Go.Proofs.Ythmckhfjaleomaa.T Go.Proofs.Ythmckhfjaleomaa.St
theorem mx_eq (a b : Int) : mx a b = max a b := by unfold mx; omega
theorem mn_eq (a b : Int) : mn a b = min a b := by unfold mn; omega
/-- how many are above 0, the greatest and the least surprise among them. -/
def someW : List Int → Int
  | [] => 0
  | x :: r => (if x = 0 then 0 else 1) + someW r
def mostW (b : Int) : List Int → Int → Int
  | [], m => m
  | x :: r, m => if x = 0 then mostW b r m else mostW b r (max m (surL b x))
def leastW (b : Int) : List Int → Int → Int
  | [], m => m
  | x :: r, m => if x = 0 then leastW b r m else leastW b r (min m (surL b x))
section
variable (w : List Int) (b : Nat) (e : bitsL w = (b : Int)) (h0 : bitsL w ≠ 0) (b1 : 1 ≤ b) (b2 : b ≤ 32) (hs : w.sum = ((2 ^ b : Nat) : Int)) (hl : w.length ≤ 512) (hx : ∀ x ∈ w, 0 ≤ x ∧ x ≤ ((2 ^ b : Nat) : Int))
include e h0 b1 b2 hs hl hx
theorem at_sur (i : Nat) (hi : i < w.length) : Ev (fun k => dist_Surprise.f k w (i : Int)) (if w.getD i 0 = 0 then (0, 223) else (surL b (w.getD i 0), 0)) := by
  have h := own_surprise w (i : Int)
  unfold surpriseL at h
  rw [if_neg h0, if_neg (fun h => h ⟨by omega, by omega⟩), Int.toNat_natCast, e] at h
  exact h
theorem sur_zero (x : Int) (hx0 : 1 ≤ x) (hx1 : x ≤ ((2 ^ b : Nat) : Int)) : (surL b x == 0) = (x == w.sum) := by
  rw [hs]
  unfold surL
  by_cases c : x = ((2 ^ b : Nat) : Int)
  · rw [c, log_pow b b2]
    simp
  · have := log_lt x b hx0 (by omega)
    rw [beq_eq_false_iff_ne.2 c, beq_eq_false_iff_ne.2 (by omega)]
/-- the end: what is asked of the mean. -/
def Ends (n some' most least : Int) : Prop := n ≥ 0 ∧ n ≤ most ∧ n ≥ least ∧ ((n == 0) = (some' == 1))
theorem bits_l2 (x3 x7 x8 x9 x10 : Int) (i : Nat) (hi : i < w.length) (hxi : w.getD i 0 ≠ 0) (R : Ev (fun k => w22_DistBits.l1 k w x3 x7 x8 x9 x10 w (w.length : Int) (wrap64 ((i : Int) + 1))) true) : ∀ (d j : Nat), w.length - j = d → j ≤ w.length →
    Ev (fun k => w22_DistBits.l2 k w x3 x7 x8 x9 x10 (w.getD i 0) (surL b (w.getD i 0)) w (w.length : Int) (i : Int) w (w.length : Int) (j : Int)) true
  | d, j, hd, hj => by
    refine Ev.step (fun k => by rw [w22_DistBits.l2]) ?_
    by_cases c : j < w.length
    · obtain ⟨d, rfl⟩ : ∃ e, d = e + 1 := ⟨d - 1, by omega⟩
      have hvi := hx _ (getD_mem w i hi)
      have hvj := hx _ (getD_mem w j c)
      rw [rd_nat, w1 j (by omega)]
      refine ev_pos (by omega) (ev_pos (by omega) (ev_pos (by omega) (Ev.bind (at_sur w b e h0 b1 b2 hs hl hx j c) ?_)))
      have next := bits_l2 x3 x7 x8 x9 x10 i hi hxi R d (j + 1) (by omega) (by omega)
      by_cases g : w.getD j 0 > w.getD i 0
      · rw [if_neg (by omega)]
        have hm := log_mono (show 1 ≤ w.getD i 0 by omega) (show w.getD i 0 ≤ w.getD j 0 by omega)
        exact ev_pos g (ev_pos rfl (ev_neg (by unfold surL; omega) next))
      · exact ev_neg g next
    · exact ev_neg (by omega) R
theorem bits_l1 (n : Int) : ∀ (d i : Nat) (x8 x9 x10 : Int), w.length - i = d → i ≤ w.length → 0 ≤ x8 → x8 ≤ (i : Int) → Ends n (x8 + someW (w.drop i)) (mostW b (w.drop i) x9) (leastW b (w.drop i) x10) →
    Ev (fun k => w22_DistBits.l1 k w n w.sum x8 x9 x10 w (w.length : Int) (i : Int)) true
  | d, i, x8, x9, x10, hd, hi, h8, h8', hE => by
    refine Ev.step (fun k => by rw [w22_DistBits.l1]) ?_
    by_cases c : i < w.length
    · obtain ⟨d, rfl⟩ : ∃ e, d = e + 1 := ⟨d - 1, by omega⟩
      have hv := hx _ (getD_mem w i c)
      rw [drop_get w i c, someW, mostW, leastW] at hE
      rw [rd_nat]
      refine ev_pos (by omega) (ev_pos (by omega) (ev_pos (by omega) (Ev.bind (at_sur w b e h0 b1 b2 hs hl hx i c) ?_)))
      by_cases cz : w.getD i 0 = 0
      · rw [if_pos cz, if_pos cz, if_pos cz, Int.zero_add] at hE
        rw [if_pos cz, w1 i (by omega)]
        exact ev_pos cz (ev_pos rfl (bits_l1 n d (i + 1) x8 x9 x10 (by omega) (by omega) h8 (by omega) hE))
      · rw [if_neg cz, if_neg cz, if_neg cz] at hE
        have hsr := sur_range b2 (show 1 ≤ w.getD i 0 by omega) hv.2
        have hz := sur_zero w b e h0 b1 b2 hs hl hx (w.getD i 0) (by omega) hv.2
        rw [if_neg cz]
        refine ev_neg cz (ev_pos rfl (ev_neg (by show ¬ surL b (w.getD i 0) < 0; omega) ?_))
        show Ev (fun k => w22_DistBits.j2 k w n w.sum (wrap64 (x8 + 1)) (mx x9 (surL b (w.getD i 0))) (mn x10 (surL b (w.getD i 0))) (w.getD i 0) (surL b (w.getD i 0)) w (w.length : Int) (i : Int) ((surL b (w.getD i 0) == 0) != (w.getD i 0 == w.sum))) true
        rw [hz, mx_eq, mn_eq, w64 (x := x8 + 1) (by omega) (by omega)]
        refine Ev.step (fun k => by rw [w22_DistBits.j2]) (ev_neg (by simp) ?_)
        refine bits_l2 w b e h0 b1 b2 hs hl hx n w.sum (x8 + 1) _ _ i c cz ?_ _ 0 rfl (Nat.zero_le _)
        rw [w1 i (by omega)]
        refine bits_l1 n d (i + 1) (x8 + 1) _ _ (by omega) (by omega) (by omega) (by omega) ?_
        rw [show x8 + 1 + someW (w.drop (i + 1)) = x8 + (1 + someW (w.drop (i + 1))) by omega]
        exact hE
    · obtain rfl : i = w.length := by omega
      rw [List.drop_eq_nil_of_le (Nat.le_refl _)] at hE
      obtain ⟨g1, g2, g3, g4⟩ := hE
      have g2' : n ≤ x9 := g2
      have g3' : n ≥ x10 := g3
      have g4' : (n == 0) = (x8 + 0 == 1) := g4
      rw [Int.add_zero] at g4'
      refine ev_neg (by omega) (ev_pos g1 (ev_pos g2' (ev_pos g3' ?_)))
      rw [g4', beq_self_eq_true]
      exact Ev.now _
theorem bits_l0 (n : Int) (hE : Ends n (someW w) (mostW b w 0) (leastW b w 1099511627776)) : ∀ (d i : Nat) (s : Int), w.length - i = d → i ≤ w.length → 0 ≤ s → s ≤ 4294967296 * (i : Int) → s + (w.drop i).sum = w.sum →
    Ev (fun k => w22_DistBits.l0 k w n s 0 0 1099511627776 w (w.length : Int) (i : Int)) true
  | d, i, s, hd, hi, s0, s1, hss => by
    refine Ev.step (fun k => by rw [w22_DistBits.l0]) ?_
    by_cases c : i < w.length
    · obtain ⟨d, rfl⟩ : ∃ e, d = e + 1 := ⟨d - 1, by omega⟩
      have hv := hx _ (getD_mem w i c)
      have hp := pow_le32 b2
      rw [drop_get w i c, List.sum_cons] at hss
      rw [rd_nat, w1 i (by omega), w64 (x := s + w.getD i 0) (by omega) (by omega)]
      exact ev_pos (by omega) (ev_pos (by omega) (ev_pos (by omega) (bits_l0 n hE d (i + 1) _ (by omega) (by omega) (by omega) (by omega) (by omega))))
    · obtain rfl : i = w.length := by omega
      rw [List.drop_eq_nil_of_le (Nat.le_refl _)] at hss
      have hs' : s + 0 = w.sum := hss
      obtain rfl : s = w.sum := by omega
      refine ev_neg (by omega) ?_
      exact bits_l1 w b e h0 b1 b2 hs hl hx n _ 0 0 0 1099511627776 rfl (Nat.zero_le _) (Int.le_refl _) (Int.le_refl _) (by rw [Int.zero_add]; exact hE)
end
theorem most_ge (b : Int) : ∀ (l : List Int) (m : Int), m ≤ mostW b l m ∧ ∀ x ∈ l, x ≠ 0 → surL b x ≤ mostW b l m
  | [], m => ⟨Int.le_refl _, fun x hx => by cases hx⟩
  | x :: r, m => by
    rw [mostW]
    split
    · rename_i c
      obtain ⟨h1, h2⟩ := most_ge b r m
      refine ⟨h1, fun y hy hn => ?_⟩
      rcases List.mem_cons.1 hy with rfl | hy
      · exact (hn c).elim
      · exact h2 y hy hn
    · obtain ⟨h1, h2⟩ := most_ge b r (max m (surL b x))
      refine ⟨by omega, fun y hy hn => ?_⟩
      rcases List.mem_cons.1 hy with rfl | hy
      · omega
      · exact h2 y hy hn
theorem least_le (b : Int) : ∀ (l : List Int) (m : Int), leastW b l m ≤ m ∧ ∀ x ∈ l, x ≠ 0 → leastW b l m ≤ surL b x
  | [], m => ⟨Int.le_refl _, fun x hx => by cases hx⟩
  | x :: r, m => by
    rw [leastW]
    split
    · rename_i c
      obtain ⟨h1, h2⟩ := least_le b r m
      refine ⟨h1, fun y hy hn => ?_⟩
      rcases List.mem_cons.1 hy with rfl | hy
      · exact (hn c).elim
      · exact h2 y hy hn
    · obtain ⟨h1, h2⟩ := least_le b r (min m (surL b x))
      refine ⟨by omega, fun y hy hn => ?_⟩
      rcases List.mem_cons.1 hy with rfl | hy
      · omega
      · exact h2 y hy hn
theorem heap_le (b c : Int) : ∀ l : List Int, (∀ x ∈ l, 0 ≤ x) → (∀ x ∈ l, x ≠ 0 → surL b x ≤ c) → heapS b l ≤ c * l.sum
  | [], _, _ => by simp [heapS]
  | x :: r, h1, h2 => by
    have ih := heap_le b c r (fun y hy => h1 y (List.mem_cons_of_mem _ hy)) (fun y hy => h2 y (List.mem_cons_of_mem _ hy))
    have hx := h1 x List.mem_cons_self
    rw [heapS, List.sum_cons, Int.mul_add]
    split
    · have := Int.mul_le_mul_of_nonneg_left (h2 x List.mem_cons_self (by omega)) hx
      rw [Int.mul_comm c x]
      omega
    · have : x = 0 := by omega
      rw [this, Int.mul_zero]
      omega
theorem heap_ge (b c : Int) : ∀ l : List Int, (∀ x ∈ l, 0 ≤ x) → (∀ x ∈ l, x ≠ 0 → c ≤ surL b x) → c * l.sum ≤ heapS b l
  | [], _, _ => by simp [heapS]
  | x :: r, h1, h2 => by
    have ih := heap_ge b c r (fun y hy => h1 y (List.mem_cons_of_mem _ hy)) (fun y hy => h2 y (List.mem_cons_of_mem _ hy))
    have hx := h1 x List.mem_cons_self
    rw [heapS, List.sum_cons, Int.mul_add]
    split
    · have := Int.mul_le_mul_of_nonneg_left (h2 x List.mem_cons_self (by omega)) hx
      rw [Int.mul_comm c x]
      omega
    · have : x = 0 := by omega
      rw [this, Int.mul_zero]
      omega
theorem some_nonneg : ∀ l : List Int, 0 ≤ someW l
  | [] => Int.le_refl _
  | x :: r => by
    have := some_nonneg r
    rw [someW]
    split <;> omega
theorem some_zero : ∀ l : List Int, someW l = 0 → l.sum = 0
  | [], _ => rfl
  | x :: r, h => by
    have := some_nonneg r
    rw [someW] at h
    by_cases c : x = 0
    · rw [if_pos c] at h
      rw [List.sum_cons, c, some_zero r (by omega)]
      rfl
    · rw [if_neg c] at h; omega
theorem some_one : ∀ l : List Int, someW l = 1 → ∃ x ∈ l, x = l.sum
  | [], h => by cases h
  | x :: r, h => by
    have := some_nonneg r
    rw [someW] at h
    by_cases c : x = 0
    · rw [if_pos c] at h
      obtain ⟨y, hy, e⟩ := some_one r (by omega)
      exact ⟨y, List.mem_cons_of_mem _ hy, by rw [List.sum_cons, c, e]; omega⟩
    · rw [if_neg c] at h
      exact ⟨x, List.mem_cons_self, by rw [List.sum_cons, some_zero r (by omega)]; omega⟩
theorem all_one : ∀ l : List Int, (∀ x ∈ l, 0 ≤ x) → (∃ x ∈ l, x = l.sum ∧ x ≠ 0) → someW l = 1
  | [], _, h => by obtain ⟨x, hx, _⟩ := h; cases hx
  | y :: r, h0, h => by
    obtain ⟨x, hx, e, hn⟩ := h
    have hr0 : ∀ x ∈ r, 0 ≤ x := fun z hz => h0 z (List.mem_cons_of_mem _ hz)
    have hy := h0 y List.mem_cons_self
    have hsr := sum_nonneg hr0
    rw [List.sum_cons] at e
    rw [someW]
    rcases List.mem_cons.1 hx with c | c
    · subst c
      have hr : r.sum = 0 := by omega
      have : someW r = 0 := by
        have hall : ∀ z ∈ r, z = 0 := fun z hz => by have := mem_le_sum hr0 z hz; have := hr0 z hz; omega
        clear hx e hr hsr hr0 h0
        induction r with
        | nil => rfl
        | cons z q ih => rw [someW, if_pos (hall z List.mem_cons_self), ih (fun u hu => hall u (List.mem_cons_of_mem _ hu))]; rfl
      rw [if_neg hn, this]; rfl
    · have hle := mem_le_sum hr0 x c
      have hyz : y = 0 := by omega
      rw [if_pos hyz, all_one r hr0 ⟨x, c, by omega, hn⟩]; rfl
theorem DistBits : w22_DistBits.Plain := by
  intro w hw
  refine ev_rounds ?_
  unfold w22_DistBits.f
  refine Ev.bind awake (ev_pos rfl (Ev.bind (own_entropy w) ?_))
  by_cases c : bitsL w = 0
  · have he : entropyL w = (0, 221) := by unfold entropyL; rw [if_pos c]
    have hr := ref_entropy w
    rw [he] at hr ⊢
    exact ev_neg (by decide) (Ev.bind hr (ev_pos rfl (Ev.now _)))
  · obtain ⟨b, e, b1, b2, b3, bl, bx, bs⟩ := bits_ok c
    have he : entropyL w = (heapS b w / 2 ^ b, 0) := by unfold entropyL; rw [if_neg c, e, Int.toNat_natCast]
    rw [he]
    refine ev_pos rfl ?_
    have hw0 : ∀ x ∈ w, 0 ≤ x := fun x hx => (bx x hx).1
    have hpos : (1 : Int) ≤ ((2 ^ b : Nat) : Int) := by have : 0 < 2 ^ b := Nat.pow_pos (by omega); omega
    have hcast : (2 : Int) ^ b = ((2 ^ b : Nat) : Int) := by rw [Int.natCast_pow]; rfl
    refine bits_l0 w b e c b1 b2 b3 bl.2 bx _ ?_ _ 0 0 rfl (Nat.zero_le _) (Int.le_refl _) (by omega) (by rw [Int.zero_add]; rfl)
    have m1 := most_ge (b : Int) w 0
    have l1 := least_le (b : Int) w 1099511627776
    have up := heap_le (b : Int) _ w hw0 m1.2
    have lo := heap_ge (b : Int) _ w hw0 l1.2
    rw [b3] at up lo
    have nn := heapS_nonneg w b b2 bl.2 bx (pow_le32 b2) _ 0 rfl
    rw [List.drop_zero] at nn
    have hsz : ∀ y : Int, 1 ≤ y → y ≤ ((2 ^ b : Nat) : Int) → (surL b y == 0) = (y == w.sum) := fun y h1 h2 => sur_zero w b e c b1 b2 b3 bl.2 bx y h1 h2
    have hsr : ∀ y : Int, 1 ≤ y → y ≤ ((2 ^ b : Nat) : Int) → 0 ≤ surL b y := fun y h1 h2 => (sur_range b2 h1 h2).1
    rw [hcast]
    generalize ((2 ^ b : Nat) : Int) = P at *
    refine ⟨Int.ediv_nonneg nn (by omega), ?_, ?_, ?_⟩
    · exact Int.ediv_le_of_le_mul (by omega) up
    · exact Int.le_ediv_of_mul_le (by omega) lo
    · by_cases c1 : someW w = 1
      · obtain ⟨x, hx, ex⟩ := some_one w c1
        have hz : heapS b w ≤ 0 * P := by
          have h := heap_le (b : Int) 0 w hw0 (fun y hy hn => by
            have hy1 := bx y hy
            have hsum := mem_le_sum hw0
            -- the one that has all
            have : y = w.sum := by
              rcases Decidable.em (y = w.sum) with h | h
              · exact h
              · exfalso
                have h2 : ∀ l : List Int, (∀ z ∈ l, 0 ≤ z) → someW l = 1 → ∀ z ∈ l, z ≠ 0 → z = l.sum := by
                  intro l
                  induction l with
                  | nil => intro _ h; cases h
                  | cons u q ih =>
                    intro h0 h1 z hz hn
                    have := some_nonneg q
                    rw [someW] at h1
                    rw [List.sum_cons]
                    by_cases cu : u = 0
                    · rw [if_pos cu] at h1
                      rcases List.mem_cons.1 hz with r | r
                      · exact (hn (r.trans cu)).elim
                      · rw [ih (fun v hv => h0 v (List.mem_cons_of_mem _ hv)) (by omega) z r hn]; omega
                    · rw [if_neg cu] at h1
                      have hq := some_zero q (by omega)
                      rcases List.mem_cons.1 hz with r | r
                      · rw [r, hq]; omega
                      · exfalso
                        have := mem_le_sum (fun v hv => h0 v (List.mem_cons_of_mem _ hv)) z r
                        have := h0 z hz
                        omega
                exact h (h2 w hw0 c1 y hy hn)
            have h3 : (surL b y == 0) = true := by
              have hz := hsz y (by omega) (by omega)
              rw [hz, this]; simp
            have := beq_iff_eq.1 h3
            omega)
          rw [b3] at h
          exact h
        have : heapS b w = 0 := by omega
        rw [this, c1, Int.zero_ediv]
        rfl
      · have hge : 1 * P ≤ heapS b w := by
          have h := heap_ge (b : Int) 1 w hw0 (fun y hy hn => by
            have hy1 := bx y hy
            have hr := hsr y (by omega) (by omega)
            rcases Decidable.em (surL b y = 0) with h | h
            · exfalso
              have hz := hsz y (by omega) (by omega)
              rw [h, beq_self_eq_true] at hz
              have hy2 := beq_iff_eq.1 hz.symm
              exact c1 (all_one w hw0 ⟨y, hy, hy2, hn⟩)
            · omega)
          rw [b3] at h
          exact h
        have h1 : 1 ≤ heapS b w / P := Int.le_ediv_of_mul_le (by omega) hge
        rw [beq_eq_false_iff_ne.2 (show heapS b w / P ≠ 0 by omega), beq_eq_false_iff_ne.2 c1]
end Go.Proofs.Ythmckhfjaleomaa.Pure
