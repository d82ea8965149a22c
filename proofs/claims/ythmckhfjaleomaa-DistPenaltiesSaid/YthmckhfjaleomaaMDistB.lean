/- Several texts in one (ContainsInt, MaxPlain, Max, Dist1b, Dist3b). -/
import Derived.Test.YthmckhfjaleomaaMDist
import Derived.WalkKit
import Derived.Deep.LoopGhost
import Derived.Deep.QuietTactic
import Derived.Shelf.SlSortCmp.Kit1
import Derived.Test.YthmckhfjaleomaaProg
import Derived.Test.YthmckhfjaleomaaKInvWordsMore
/- slices.ContainsFunc at []int, for a closure that tells a plain function of the element. -/
namespace Go.Proofs.Ythmckhfjaleomaa.St
open Go.Proofs Go.Shelf Go.RowKit Go.Lib Go.Sort Go.Proofs.YthmckhfjaleomaaW.PrintWords
set_option maxHeartbeats 1000000 in
set_option maxRecDepth 1000000 in
theorem index_int (A0 : Option Addr) (c0 : Nat) (l0 : List Int) (w : World) (hr0 : Kd.C (Kd.int .i64) w A0 l0.length l0) (hn : l0.length ≤ 17592186044416) (g : Nat) (cb : Array Value) (pf : Int → Bool)
  (eg : ∀ args w, (callFunc g args).run Try.prog w = .ok (.enter g args) w)
  (hf : ∀ q os (x : Int), x ∈ l0 → Calls Try.prog g (#[.int .i64 x] ++ cb) (grow (w.drewN q) os) fun e w' => e = .returned (.bool (pf x)) ∧ ∃ q' os', w' = grow ((grow (w.drewN q) os).drewN q') os') :
  Calls Try.prog 80 #[.slice A0 l0.length c0, .func (.func g) #[] cb] w fun e w' => e = .returned (.int .i64 (idxF pf l0 0)) ∧ ∃ q os, w' = grow (w.drewN q) os := by
 have mixed : Try.prog.follows .mixedOrders = true := by kernel_rfl
 have R : Aside (∀ i : Nat, i < l0.length → ∃ ad, A0 = some ad ∧ w.cell? (ad.add i) = some (.int .i64 (l0.getD i 0))) := reads_row hr0
 have HF : Aside (∀ q os (x : Int), x ∈ l0 → Calls Try.prog g (#[.int .i64 x] ++ cb) (grow (w.drewN q) os) fun e w' => e = .returned (.bool (pf x)) ∧ ∃ q' os', w' = grow ((grow (w.drewN q) os).drewN q') os') := hf
 clear hr0 hf
 go_enter Try.func80, Try.ntmps80
 go_wp2
 go_loopg [8] l0.length (fun kx s8 wr => ∃ i : Nat, s8 = .int .i64 i ∧ i ≤ l0.length ∧ l0.length - i ≤ kx ∧ Aside (∃ q os, wr = grow (w.drewN q) os) ∧ Hid (idxF pf (l0.drop i) i = idxF pf l0 0))
 case atStart => exact ⟨0, rfl, by omega, by omega, ⟨0, #[], by rw [grow_empty]; rfl⟩, rfl⟩
 case round =>
  obtain ⟨i, rfl, hi, hkx, HW, HE⟩ := hrel
  obtain ⟨q, os, rfl⟩ := HW.out
  clear HW
  by_cases hlt : i < l0.length
  ·have hltz : (i : Int) < (l0.length : Int) := by omega
   obtain ⟨ad, rfl, hc⟩ := R.out i hlt
   have hc2 := cell_grown hc q os
   have hd : l0.drop i = l0.getD i 0 :: l0.drop (i + 1) := by
    rw [List.drop_eq_getElem_cons hlt, List.getD_eq_getElem?_getD, List.getElem?_eq_getElem hlt]; rfl
   have hm : l0.getD i 0 ∈ l0 := by
    rw [List.getD_eq_getElem?_getD, List.getElem?_eq_getElem hlt]; exact List.getElem_mem _
   have HE0 := HE.out
   rw [hd, idxF] at HE0
   have HX := HF.out q os _ hm
   clear HE hd hc hm
   obtain ⟨x, hx⟩ : ∃ x, x = l0.getD i 0 := ⟨_, rfl⟩
   rw [← hx] at HE0 hc2 HX
   have HX2 : Aside (Calls Try.prog g (#[.int .i64 x] ++ cb) (grow (w.drewN q) os) fun e w' => e = .returned (.bool (pf x)) ∧ ∃ q' os', w' = grow ((grow (w.drewN q) os).drewN q') os') := HX
   clear hx HX
   cases hp : pf x with
   | true =>
    have HE2 : Hid (idxF pf l0 0 = (i : Int)) := by rw [if_pos hp] at HE0; exact HE0.symm
    rw [hp] at HX2
    clear HE0 hp
    go_wp2_with fail
    ((with_reducible refine HX2.out.mono ?_))
    rintro e' w2 ⟨rfl, q', os', rfl⟩
    go_wp2
    go_ret
    rw [HE2.out]
    exact ⟨rfl, q + q', os ++ os', by show grow (grow ((w.drewN q).drewN q') os) os' = _; rw [grow_grow, World.drewN_drewN]⟩
   | false =>
    have HE2 : Hid (idxF pf (l0.drop (i + 1)) (i + 1) = idxF pf l0 0) := by rw [if_neg (by rw [hp]; decide)] at HE0; exact HE0
    rw [hp] at HX2
    clear HE0 hp
    go_wp2_with fail
    ((with_reducible refine HX2.out.mono ?_))
    rintro e' w2 ⟨rfl, q', os', rfl⟩
    have HW2 : Aside (∃ q1 os1, grow ((grow (w.drewN q) os).drewN q') os' = grow (w.drewN q1) os1) := ⟨q + q', os ++ os', by show grow (grow ((w.drewN q).drewN q') os) os' = _; rw [grow_grow, World.drewN_drewN]⟩
    clear hc2
    generalize grow ((grow (w.drewN q) os).drewN q') os' = w2 at HW2 ⊢
    have HW3 : Aside (∀ k, ∃ q1 os1, w2.drewN k = grow (w.drewN q1) os1) := by
     intro k
     obtain ⟨q1, os1, h⟩ := HW2.out
     exact ⟨q1 + k, os1, by rw [h]; show grow ((w.drewN q1).drewN k) os1 = _; rw [World.drewN_drewN]⟩
    go_wp2
    go_roundg (l0.length - (i + 1))
    case measure => omega
    case rel => exact ⟨i + 1, by go_num, by omega, Nat.le_refl _, by first | exact HW2 | exact HW3.out _, HE2⟩
  ·have hltz : ¬ (i : Int) < (l0.length : Int) := by omega
   have HE2 : Hid (idxF pf l0 0 = -1) := by
    have h := HE.out
    rw [List.drop_eq_nil_of_le (by omega)] at h
    exact h.symm
   clear HE
   go_wp2
   go_ret
   rw [HE2.out]
   exact ⟨rfl, q, os, rfl⟩
set_option maxRecDepth 1000000 in
theorem contains_int (A0 : Option Addr) (c0 : Nat) (l0 : List Int) (w : World) (hr0 : Kd.C (Kd.int .i64) w A0 l0.length l0) (hn : l0.length ≤ 17592186044416) (g : Nat) (cb : Array Value) (pf : Int → Bool)
  (eg : ∀ args w, (callFunc g args).run Try.prog w = .ok (.enter g args) w)
  (hf : ∀ q os (x : Int), x ∈ l0 → Calls Try.prog g (#[.int .i64 x] ++ cb) (grow (w.drewN q) os) fun e w' => e = .returned (.bool (pf x)) ∧ ∃ q' os', w' = grow ((grow (w.drewN q) os).drewN q') os') :
  Calls Try.prog 56 #[.slice A0 l0.length c0, .func (.func g) #[] cb] w fun e w' => e = .returned (.bool (l0.any pf)) ∧ ∃ q os, w' = grow (w.drewN q) os := by
 have mixed : Try.prog.follows .mixedOrders = true := by kernel_rfl
 have h := idxF_any pf l0 0
 have HA : Hid (decide (0 ≤ idxF pf l0 0) = l0.any pf) := h
 go_enter Try.func56, Try.ntmps56
 go_wp2_with fail
 ((with_reducible refine (index_int A0 c0 l0 w hr0 hn g cb pf eg hf).mono ?_))
 rintro e' w2 ⟨rfl, q, os, rfl⟩
 clear h
 clear hf hr0
 generalize idxF pf l0 0 = v at HA ⊢
 have HA1 : decide (0 ≤ v) = l0.any pf := HA.out
 go_wp2
 go_ret
 exact ⟨by first | rfl | (rw [HA1]; rfl) | (simp [HA1]; done), q, os, rfl⟩
end Go.Proofs.Ythmckhfjaleomaa.St
/- slices.Max in plain Lean. -/
namespace Go.Proofs.Ythmckhfjaleomaa.St
def maxFrom (m : Int) (l : List Int) : Int := l.foldl (fun m x => if m < x then x else m) m
def maxL (l : List Int) : Int := maxFrom (l.getD 0 0) (l.drop 1)
end Go.Proofs.Ythmckhfjaleomaa.St
/- slices.Max at []int64. -/
namespace Go.Proofs.Ythmckhfjaleomaa.St
open Go.Proofs Go.Shelf Go.RowKit Go.Proofs.YthmckhfjaleomaaW.PrintWords Go.Proofs.YthmckhfjaleomaaW.PrintLast Go.Proofs.YthmckhfjaleomaaW.PrintMore
attribute [local go_sem] max2_int min2_int max_two min_two

set_option maxHeartbeats 1000000 in
set_option maxRecDepth 1000000 in
theorem max_calls (A0 : Option Addr) (c0 : Nat) (l0 : List Int) (w : World) (hr0 : Kd.C (Kd.int .i64) w A0 l0.length l0) (hn : l0.length ≤ 17592186044416) (hne : 0 < l0.length) :
  Calls Try.prog 63 #[.slice A0 l0.length c0] w fun e w' => e = .returned (.int .i64 (maxL l0)) ∧ Drawn0 w w' := by
 have mixed : Try.prog.follows .mixedOrders = true := by kernel_rfl
 have R : Aside (∀ i : Nat, i < l0.length → ∃ ad, A0 = some ad ∧ w.cell? (ad.add i) = some (.int .i64 (l0.getD i 0))) := by
  intro i hi
  obtain ⟨ad, c, e, _, hK, hc0⟩ := Kd.C_get hr0 0 (i : Int) (by omega) (by omega)
  have hK' : c = [.int .i64 (l0.getD i 0)] := by rw [Int.toNat_natCast] at hK; exact hK
  subst hK'
  have h := hc0 0 _ rfl
  rw [Int.toNat_natCast] at h
  exact ⟨ad, e, by rw [show i * (Kd.int .i64).sz + 0 = i by show i * 1 + 0 = i; omega] at h; exact h⟩
 clear hr0
 have hn1 : ¬ (l0.length : Int) < 1 := by omega
 have hn2 : (0 : Int) < (l0.length : Int) := by omega
 obtain ⟨ad, rfl, hc⟩ := R.out 0 hne
 have hc0 : w.cell? ad = some (.int .i64 (l0.getD 0 0)) := by rw [← hc]; cases ad; simp [Addr.add]
 obtain ⟨x0, hx0⟩ : ∃ x, x = l0.getD 0 0 := ⟨_, rfl⟩
 rw [← hx0] at hc0
 have HS : Hid (maxFrom x0 (l0.drop 1) = maxL l0) := by show _ = _; rw [hx0]; rfl
 clear hc hx0
 go_enter Try.func63, Try.ntmps63
 go_wp2
 go_loopg [3, 4] l0.length (fun kx s3 s4 wr => ∃ (i : Nat) (m : Int), s3 = .int .i64 m ∧ s4 = .int .i64 i ∧ i ≤ l0.length ∧ l0.length - i ≤ kx ∧ Aside (∃ q, wr = w.drewN q) ∧ Hid (maxFrom m (l0.drop i) = maxL l0))
 case atStart => exact ⟨1, x0, rfl, rfl, by omega, by omega, ⟨0, rfl⟩, HS⟩
 case round =>
  clear HS hc0
  obtain ⟨i, m, rfl, rfl, hi, hkx, HW, HE⟩ := hrel
  obtain ⟨q, rfl⟩ := HW.out
  clear HW
  by_cases hlt : i < l0.length
  ·have hltz : (i : Int) < (l0.length : Int) := by omega
   obtain ⟨ad', e, hc⟩ := R.out i hlt
   injection e with e
   subst e
   have HE0 := HE.out
   have hd : l0.drop i = l0.getD i 0 :: l0.drop (i + 1) := by
    rw [List.drop_eq_getElem_cons hlt, List.getD_eq_getElem?_getD, List.getElem?_eq_getElem hlt]; rfl
   rw [hd] at HE0
   clear HE hd
   obtain ⟨x, hx⟩ : ∃ x, x = l0.getD i 0 := ⟨_, rfl⟩
   rw [← hx] at HE0 hc
   clear hx
   obtain ⟨m', hm⟩ : ∃ m', (if m < x then x else m) = m' := ⟨_, rfl⟩
   have HE2 : Hid (maxFrom m' (l0.drop (i + 1)) = maxL l0) := by show _ = _; rw [← hm]; exact HE0
   clear HE0
   go_wp2
   go_roundg (l0.length - (i + 1))
   case measure => omega
   case rel => exact ⟨i + 1, m', by first | rfl | go_num, by go_num, by omega, Nat.le_refl _, ⟨_, rfl⟩, HE2⟩
  ·have hltz : ¬ (i : Int) < (l0.length : Int) := by omega
   have HE2 : Hid (maxL l0 = m) := by
    have h := HE.out
    rw [List.drop_eq_nil_of_le (by omega)] at h
    exact h.symm
   clear HE
   go_wp2
   go_ret
   rw [HE2.out]
   exact ⟨rfl, ⟨_, rfl⟩⟩
end Go.Proofs.Ythmckhfjaleomaa.St
/- dist.scored. -/
namespace Go.Proofs.Ythmckhfjaleomaa.St
open Go.Proofs Go.Shelf Go.RowKit Go.Lib Go.Sort Go.Proofs.YthmckhfjaleomaaW.PrintWords
set_option maxRecDepth 1000000 in
theorem wrong2_calls (x : Int) (w : World) : Calls Try.prog 79 (#[.int .i64 x] ++ #[]) w fun e w' => e = .returned (.bool (wrongS x)) ∧ ∃ q os, w' = grow (w.drewN q) os := by
 show Calls Try.prog 79 #[.int .i64 x] w _
 have mixed : Try.prog.follows .mixedOrders = true := by kernel_rfl
 by_cases h : x < -1073741824
 ·have h1 : decide (x < -1073741824) = true := decide_eq_true h
  have hw : Hid (wrongS x = true) := by show _ = _; unfold wrongS; simp [h]
  go_enter Try.func79, Try.ntmps79
  go_wp2
  go_ret
  rw [hw.out]
  exact ⟨rfl, 0, #[], by rw [grow_empty]; rfl⟩
 ·have h1 : decide (x < -1073741824) = false := decide_eq_false h
  have hw : Hid (wrongS x = decide (x > 1073741824)) := by show _ = _; unfold wrongS; simp [h]
  go_enter Try.func79, Try.ntmps79
  go_wp2
  go_ret
  rw [hw.out]
  exact ⟨rfl, 0, #[], by rw [grow_empty]; rfl⟩

set_option maxHeartbeats 1000000 in
set_option maxRecDepth 1000000 in
theorem scored_calls (A0 : Option Addr) (c0 : Nat) (l0 : List Int) (w : World) (hr0 : Kd.C (Kd.int .i64) w A0 l0.length l0) (hn : l0.length ≤ 17592186044416) :
  Calls Try.prog 55 #[.slice A0 l0.length c0] w fun e w' => e = .returned (.bool (scoredL l0)) ∧ Below w.heap.size w w' := by
 have mixed : Try.prog.follows .mixedOrders = true := by kernel_rfl
 have hB : Aside (∀ q os, Below w.heap.size w (grow (w.drewN q) os)) := by
  intro q os
  refine ⟨rfl, rfl, rfl, ?_, fun k hk => ?_⟩
  ·show _ ≤ (w.heap ++ os).size
   rw [Array.size_append]; omega
  ·show (w.heap ++ os)[k]? = _
   rw [Array.getElem?_append_left hk]
 have eg : ∀ args w, (callFunc 79 args).run Try.prog w = .ok (.enter 79 args) w := enters_of Try.func79 (by kernel_rfl) rfl
 have HC : Aside (∀ q, Calls Try.prog 38 #[.slice A0 l0.length c0, .func (.func 79) #[] #[]] (w.drewN q) fun e w' => e = .returned (.bool (l0.any wrongS)) ∧ ∃ q os, w' = grow (w.drewN q) os) := by
  intro q
  refine (contains_int64 A0 c0 l0 (w.drewN q) hr0 hn 79 #[] wrongS eg ?_).mono ?_
  ·intro q os x _
   exact wrong2_calls x _
  ·rintro e w' ⟨h1, q', os, h2⟩
   exact ⟨h1, q + q', os, by rw [h2, World.drewN_drewN]⟩
 clear eg hr0
 by_cases h1 : l0.length < 1
 ·have hs : Hid (scoredL l0 = false) := by show _ = _; unfold scoredL; rw [decide_eq_false (by omega)]; rfl
  have z1 : ¬ (l0.length : Int) ≥ 1 := by omega
  have z2 : ¬ (1 : Int) ≤ (l0.length : Int) := by omega
  go_enter Try.func55, Try.ntmps55
  go_wp2
  go_ret
  rw [hs.out]
  exact ⟨rfl, hB.out 0 #[] |> fun h => by rw [grow_empty] at h; exact h⟩
 ·by_cases h2 : 512 < l0.length
  ·have hs : Hid (scoredL l0 = false) := by show _ = _; unfold scoredL; rw [decide_eq_false (by omega)]; rfl
   have z1 : (l0.length : Int) ≥ 1 := by omega
   have z2 : ¬ (l0.length : Int) ≤ 512 := by omega
   go_enter Try.func55, Try.ntmps55
   go_wp2
   go_ret
   rw [hs.out]
   exact ⟨rfl, hB.out 0 #[] |> fun h => by rw [grow_empty] at h; exact h⟩
  ·have hs : Hid (scoredL l0 = !l0.any wrongS) := by show _ = _; unfold scoredL; rw [decide_eq_true (by omega)]; rfl
   have z1 : (l0.length : Int) ≥ 1 := by omega
   have z2 : (l0.length : Int) ≤ 512 := by omega
   go_enter Try.func55, Try.ntmps55
   go_wp2_with fail
   ((with_reducible refine (between_calls _ _ _ true ?_ _).mono ?_))
   ·rw [decide_eq_true (by omega), decide_eq_true (by omega)]; rfl
   rintro e' w1 ⟨rfl, q1, rfl⟩
   go_wp2_with fail
   ((with_reducible refine (HC.out q1).mono ?_))
   rintro e' w2 ⟨rfl, q2, os2, rfl⟩
   have hB2 : Below w.heap.size w (grow (w.drewN q2) os2) := hB.out q2 os2
   have hB3 : Aside (Below w.heap.size w (grow (w.drewN q2) os2)) := hB2
   clear hB2 hB HC
   generalize l0.any wrongS = b at hs ⊢
   go_wp2
   go_ret
   rw [hs.out]
   exact ⟨by first | rfl | (cases b <;> rfl), hB3.out⟩
end Go.Proofs.Ythmckhfjaleomaa.St
/- The closure of dist.Penalise. -/
namespace Go.Proofs.Ythmckhfjaleomaa.St
open Go.Proofs Go.Shelf Go.RowKit Go.Lib Go.Sort Go.Proofs.YthmckhfjaleomaaW.PrintWords
/-- a token that is none. -/
def offL (n : Nat) (x : Int) : Bool := !(decide (0 ≤ x) && decide (x ≤ (n : Int) - 1))
set_option maxRecDepth 1000000 in
theorem pen2_calls (gb : Nat) (A1 : Option Addr) (c1 n1 : Nat) (W : World) (hb : W.heap[gb]? = some (.cells #[.slice A1 n1 c1] 36 (0, 0))) (hn : n1 ≤ 17592186044416) (x : Int) :
  Calls Try.prog 57 (#[.int .i64 x] ++ #[.pointer (some ⟨gb, 0, none⟩)]) W fun e w' => e = .returned (.bool (offL n1 x)) ∧ ∃ q os, w' = grow (W.drewN q) os := by
 show Calls Try.prog 57 #[.int .i64 x, .pointer (some ⟨gb, 0, none⟩)] W _
 have mixed : Try.prog.follows .mixedOrders = true := by kernel_rfl
 have h0 := cell_of_blk hb
 clear hb
 have hz1 : (n1 : Int) - 1 ≤ 9223372036854775807 := by omega
 obtain ⟨t, ht⟩ : ∃ t, t = (decide (0 ≤ x) && decide (x ≤ (n1 : Int) - 1)) := ⟨_, rfl⟩
 have HM : Hid (offL n1 x = !t) := by show _ = _; rw [ht]; rfl
 go_enter Try.func57, Try.ntmps57
 go_wp2_with fail
 ((with_reducible refine (between_calls _ _ _ t ht _).mono ?_))
 rintro e' w1 ⟨rfl, q, rfl⟩
 clear ht
 go_wp2
 go_ret
 rw [HM.out]
 exact ⟨rfl, _, #[], by rw [grow_empty]⟩
end Go.Proofs.Ythmckhfjaleomaa.St
