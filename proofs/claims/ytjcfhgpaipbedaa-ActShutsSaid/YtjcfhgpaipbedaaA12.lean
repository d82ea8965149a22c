-- Printed by this session's own driver (wip/tools/xprint.py) over the kit's printer; given functions are this session's own.
import Derived.Test.YtjcfhgpaipbedaaA0
namespace Go.Proofs.Ytjcfhgpaipbedaa.A
open Go.RowKit Go.Proofs.YtjcfhgpaipbedaaW.PrintWords Go.Proofs.YtjcfhgpaipbedaaW.PrintLast Go.Proofs.YtjcfhgpaipbedaaW.PrintMore
attribute [local go_sem] max2_int min2_int max_two min_two max_three min_three max_four min_four   -- for this text's walks alone
set_option linter.unusedVariables false
set_option linter.unusedSimpArgs false

abbrev w12_plain.b0 : Array Bool := #[true, true, true, true, true, true, true, true, true, true, true, false, true, true, true, true, true, true, false, false]
abbrev w12_plain.b1 : Array Bool := #[true, true, true, true, true, true, true, true, false, true, true, false, true, true, true, true, true, true, false, false]
abbrev w12_plain.b2 : Array Bool := #[true, true, true, true, true, true, true, false, true, true, true, false, true, true, true, true, true, true, false, false]
abbrev w12_plain.b3 : Array Bool := #[true, true, true, true, true, true, true, false, false, true, true, false, true, true, true, true, true, true, false, false]
abbrev w12_plain.b4 : Array Bool := #[true, true, true, true, false, true, true, false, true, true, true, false, true, true, true, true, true, true, false, false]
abbrev w12_plain.b5 : Array Bool := #[true, true, true, false, true, true, true, false, true, true, true, false, true, true, true, true, true, true, false, false]
abbrev w12_plain.b6 : Array Bool := #[true, true, true, true, false, true, true, false, false, true, true, false, true, true, true, true, true, true, false, false]
abbrev w12_plain.b7 : Array Bool := #[true, true, true, false, true, true, true, false, false, true, true, false, true, true, true, true, true, true, false, false]
abbrev w12_plain.b8 : Array Bool := #[true, true, true, false, false, true, true, false, true, true, true, false, true, true, true, true, true, true, false, false]
abbrev w12_plain.b9 : Array Bool := #[false, true, true, false, true, true, true, false, true, true, true, false, true, true, true, true, true, true, false, false]
abbrev w12_plain.b10 : Array Bool := #[true, true, true, false, false, true, true, false, false, true, true, false, true, true, true, true, true, true, false, false]
abbrev w12_plain.b11 : Array Bool := #[false, true, true, false, true, true, true, false, false, true, true, false, true, true, true, true, true, true, false, false]
abbrev w12_plain.b12 : Array Bool := #[false, true, true, false, false, true, true, false, true, true, true, false, true, true, true, true, true, true, false, false]
/-! ### w12_plain: function 19 -/
def w12_plain.f (l0_0 : List Int) (l0_1 : List Int) (l0_2 : List Int) (a0_3 : Int) (a0_4 : Int) (a0_5 : Int) : Option (List Int × List Int × List Int × Int × Int × Int) := (some (([] : List Int) : List Int)).bind fun y387 => (if y387.length + l0_0.length < 140737488355328 then ((some (([] : List Int) : List Int)).bind fun y393 => (if y393.length + l0_1.length < 140737488355328 then ((some (([] : List Int) : List Int)).bind fun y399 => (if y399.length + l0_2.length < 140737488355328 then (some ((y387 ++ l0_0), (y393 ++ l0_1), (y399 ++ l0_2), a0_3, a0_4, a0_5)) else (none))) else (none))) else (none))
def w12_plain.T1 : Bool × List (List Nat × List Nat) := (true, [([], []), ([], []), ([1], [1]), ([0, 2], [0, 2]), ([], []), ([], []), ([5], [5]), ([4, 6, 3], [4, 6]), ([], []), ([], []), ([9], [9]), ([8, 10, 7], [8, 10]), ([], []), ([12], [12]), ([], []), ([14], [14]), ([], []), ([16], [16]), ([3, 7, 11, 13, 15, 17], [3, 7, 11, 13, 15, 17]), ([18, 11, 0, 1, 2, 3, 4, 5, 6, 7, 8, 9, 10, 11, 12, 13, 14, 15, 16, 17, 18], [18])])
def w12_plain.B1 : List Nat := [0, 0, 2, 7, 0, 0, 32, 127, 0, 0, 512, 2047, 0, 4096, 0, 16384, 0, 65536, 262143, 524287]
theorem w12_plain.tab1 : rtab .any (opsOf Try.f19 1) = w12_plain.T1 := by kernel_rfl
theorem w12_plain.bits1 : waitsOk w12_plain.T1.2 w12_plain.B1 = true := by kernel_rfl
set_option maxHeartbeats 8000000 in
set_option maxRecDepth 100000 in
theorem w12_plain.calls (A0_0 : Option Addr) (c0_0 : Nat) (l0_0 : List Int) (A0_1 : Option Addr) (c0_1 : Nat) (l0_1 : List Int) (A0_2 : Option Addr) (c0_2 : Nat) (l0_2 : List Int) (a0_3 : Int) (a0_4 : Int) (a0_5 : Int) (r1 : List Int) (r2 : List Int) (r3 : List Int) (r4 : Int) (r5 : Int) (r6 : Int) (w : World) (hr0_0 : Kd.C (Kd.int .i8) w A0_0 l0_0.length l0_0) (hc0_0 : l0_0.length ≤ c0_0) (hr0_1 : Kd.C (Kd.int .i8) w A0_1 l0_1.length l0_1) (hc0_1 : l0_1.length ≤ c0_1) (hr0_2 : Kd.C (Kd.int .i8) w A0_2 l0_2.length l0_2) (hc0_2 : l0_2.length ≤ c0_2) (h : w12_plain.f l0_0 l0_1 l0_2 a0_3 a0_4 a0_5 = some (r1, r2, r3, r4, r5, r6)) :
  Calls Try.prog 19 #[.agg #[.slice A0_0 l0_0.length c0_0, .slice A0_1 l0_1.length c0_1, .slice A0_2 l0_2.length c0_2, .int .i64 a0_3, .int .i64 a0_4, .int .i64 a0_5]] w fun e w' => ∃ v0_ v1_ v2_ : Value, e = .returned (.agg #[v0_, v1_, v2_, .int .i64 r4, .int .i64 r5, .int .i64 r6]) ∧ Kd.R (Kd.int .i8) 30 w' w.heap.size (fun k_ => some k_ ≠ (v1_ : Value).ownBlock ∧ some k_ ≠ (v2_ : Value).ownBlock) v0_ r1 ∧ Kd.R (Kd.int .i8) 30 w' w.heap.size (fun k_ => some k_ ≠ (v0_ : Value).ownBlock ∧ some k_ ≠ (v2_ : Value).ownBlock) v1_ r2 ∧ Kd.R (Kd.int .i8) 30 w' w.heap.size (fun k_ => some k_ ≠ (v0_ : Value).ownBlock ∧ some k_ ≠ (v1_ : Value).ownBlock) v2_ r3 ∧ Below w.heap.size w w' := by
 have hu36 := Try.underlying36
 have hu43 := Try.underlying43
 have HR0_0 := zK hr0_0
 have HC0_0 := zK hc0_0
 clear hr0_0 hc0_0
 have HR0_1 := zK hr0_1
 have HC0_1 := zK hc0_1
 clear hr0_1 hc0_1
 have HR0_2 := zK hr0_2
 have HC0_2 := zK hc0_2
 clear hr0_2 hc0_2
 have HB := zK (Below.refl w.heap.size w)
 have H : ((some (([] : List Int) : List Int)).bind fun y387 => (if y387.length + l0_0.length < 140737488355328 then ((some (([] : List Int) : List Int)).bind fun y393 => (if y393.length + l0_1.length < 140737488355328 then ((some (([] : List Int) : List Int)).bind fun y399 => (if y399.length + l0_2.length < 140737488355328 then (some ((y387 ++ l0_0), (y393 ++ l0_1), (y399 ++ l0_2), a0_3, a0_4, a0_5)) else (none))) else (none))) else (none))) = some (r1, r2, r3, r4, r5, r6) := h
 clear h
 obtain ⟨y387, hy387⟩ : ∃ y_ : List Int, y_ = (([] : List Int)) := ⟨_, rfl⟩
 replace H : (if y387.length + l0_0.length < 140737488355328 then ((some (([] : List Int) : List Int)).bind fun y393 => (if y393.length + l0_1.length < 140737488355328 then ((some (([] : List Int) : List Int)).bind fun y399 => (if y399.length + l0_2.length < 140737488355328 then (some ((y387 ++ l0_0), (y393 ++ l0_1), (y399 ++ l0_2), a0_3, a0_4, a0_5)) else (none))) else (none))) else (none)) = some (r1, r2, r3, r4, r5, r6) := by first | (rw [hy387]; with_reducible exact H) | (have H2_ := (yV _ _).symm.trans H; rw [hy387]; with_reducible exact H2_) | (have H2_ := (yV _ _).symm.trans H; with_reducible exact H2_) | with_reducible exact H | (rw [hy387]; exact H) | exact H
 have Ny387 := zK hy387
 clear hy387
 by_cases c2 : y387.length + l0_0.length < 140737488355328
 ·rw [if_pos c2] at H
  have LMc2 := zK c2
  clear c2
  obtain ⟨y390, hy390⟩ : ∃ y_ : List Int, y_ = (y387 ++ l0_0) := ⟨_, rfl⟩
  replace H : ((some (([] : List Int) : List Int)).bind fun y393 => (if y393.length + l0_1.length < 140737488355328 then ((some (([] : List Int) : List Int)).bind fun y399 => (if y399.length + l0_2.length < 140737488355328 then (some (y390, (y393 ++ l0_1), (y399 ++ l0_2), a0_3, a0_4, a0_5)) else (none))) else (none))) = some (r1, r2, r3, r4, r5, r6) := by first | (rw [hy390]; with_reducible exact H) | (have H2_ := (yV _ _).symm.trans H; rw [hy390]; with_reducible exact H2_) | (have H2_ := (yV _ _).symm.trans H; with_reducible exact H2_) | with_reducible exact H | (rw [hy390]; exact H) | exact H
  have Ny390 := zK hy390
  clear hy390
  obtain ⟨y393, hy393⟩ : ∃ y_ : List Int, y_ = (([] : List Int)) := ⟨_, rfl⟩
  replace H : (if y393.length + l0_1.length < 140737488355328 then ((some (([] : List Int) : List Int)).bind fun y399 => (if y399.length + l0_2.length < 140737488355328 then (some (y390, (y393 ++ l0_1), (y399 ++ l0_2), a0_3, a0_4, a0_5)) else (none))) else (none)) = some (r1, r2, r3, r4, r5, r6) := by first | (rw [hy393]; with_reducible exact H) | (have H2_ := (yV _ _).symm.trans H; rw [hy393]; with_reducible exact H2_) | (have H2_ := (yV _ _).symm.trans H; with_reducible exact H2_) | with_reducible exact H | (rw [hy393]; exact H) | exact H
  have Ny393 := zK hy393
  clear hy393
  by_cases c3 : y393.length + l0_1.length < 140737488355328
  ·rw [if_pos c3] at H
   have LMc3 := zK c3
   clear c3
   obtain ⟨y396, hy396⟩ : ∃ y_ : List Int, y_ = (y393 ++ l0_1) := ⟨_, rfl⟩
   replace H : ((some (([] : List Int) : List Int)).bind fun y399 => (if y399.length + l0_2.length < 140737488355328 then (some (y390, y396, (y399 ++ l0_2), a0_3, a0_4, a0_5)) else (none))) = some (r1, r2, r3, r4, r5, r6) := by first | (rw [hy396]; with_reducible exact H) | (have H2_ := (yV _ _).symm.trans H; rw [hy396]; with_reducible exact H2_) | (have H2_ := (yV _ _).symm.trans H; with_reducible exact H2_) | with_reducible exact H | (rw [hy396]; exact H) | exact H
   have Ny396 := zK hy396
   clear hy396
   obtain ⟨y399, hy399⟩ : ∃ y_ : List Int, y_ = (([] : List Int)) := ⟨_, rfl⟩
   replace H : (if y399.length + l0_2.length < 140737488355328 then (some (y390, y396, (y399 ++ l0_2), a0_3, a0_4, a0_5)) else (none)) = some (r1, r2, r3, r4, r5, r6) := by first | (rw [hy399]; with_reducible exact H) | (have H2_ := (yV _ _).symm.trans H; rw [hy399]; with_reducible exact H2_) | (have H2_ := (yV _ _).symm.trans H; with_reducible exact H2_) | with_reducible exact H | (rw [hy399]; exact H) | exact H
   have Ny399 := zK hy399
   clear hy399
   by_cases c4 : y399.length + l0_2.length < 140737488355328
   ·rw [if_pos c4] at H
    have LMc4 := zK c4
    clear c4
    obtain ⟨y402, hy402⟩ : ∃ y_ : List Int, y_ = (y399 ++ l0_2) := ⟨_, rfl⟩
    replace H : (some (y390, y396, y402, a0_3, a0_4, a0_5)) = some (r1, r2, r3, r4, r5, r6) := by first | (rw [hy402]; with_reducible exact H) | (have H2_ := (yV _ _).symm.trans H; rw [hy402]; with_reducible exact H2_) | (have H2_ := (yV _ _).symm.trans H; with_reducible exact H2_) | with_reducible exact H | (rw [hy402]; exact H) | exact H
    have Ny402 := zK hy402
    clear hy402
    simp only [yZ, ya] at H
    obtain ⟨rfl, rfl, rfl, rfl, rfl, rfl⟩ := H
    go_enter Try.func19, Try.ntmps19
    try go_wp2_with (first | ((with_reducible refine gate_dst (N := 1) rfl ?_); refine box_event ?hg (N := 1) ?hd (cs := #[.slice A0_0 l0_0.length c0_0, .slice A0_1 l0_1.length c0_1, .slice A0_2 l0_2.length c0_2, .int .i64 a0_3, .int .i64 a0_4, .int .i64 a0_5]) (t := 36) ?hr ?_; (case hd => rfl); (case hg => rfl); (case hr => first | (go_simp; done) | (go_simp; rfl)); intro Z8 hg w5 hbox hb; have n0_ := zK (yL (by repeat (first | (with_reducible first | exact HB.out | apply zJ | apply zD | apply zE) | exact HB.out)) hb); have n1_ := zK (hbox); have n2_ := zK ((by rw [hg]; exact (yK (by repeat (first | (with_reducible first | exact HB.out | apply zJ | apply zD | apply zE) | exact HB.out))) : w.heap.size ≤ Z8)); have n3_ := zK ((by rw [hg]; exact (yK (by repeat (first | (with_reducible first | exact HB.out | apply zJ | apply zD | apply zE) | exact HB.out))) : w.heap.size ≤ Z8)); clear HB; have HB := n0_; have Z0 := n1_; have Z4 := n2_; have Z2 := n3_; clear n0_ n1_ n2_ n3_ hb hbox hg) | ((with_reducible refine gate_dst (N := 2) rfl ?_); refine box_event ?hg (N := 2) ?hd (cs := #[.slice none 0 0, .slice none 0 0, .slice none 0 0, .int .i64 0, .int .i64 0, .int .i64 0]) (t := 43) ?hr ?_; (case hd => rfl); (case hg => rfl); (case hr => first | (go_simp; done) | (go_simp; rfl)); intro Z9 hg w6 hbox hb; have n0_ := zK (zP (g := Z8) (o := .cells #[.slice A0_0 l0_0.length c0_0, .slice A0_1 l0_1.length c0_1, .slice A0_2 l0_2.length c0_2, .int .i64 a0_3, .int .i64 a0_4, .int .i64 a0_5] 36 (0, 0)) (by (with_reducible repeat (first | refine zF ?_ _ | refine zH ?_ | refine zG ?_ _)); exact Z0.out) hb); have n1_ := zK (yL (by repeat (first | (with_reducible first | exact HB.out | apply zJ | apply zD | apply zE | refine zI ?_ Z2.out) | exact HB.out)) hb); have n2_ := zK (hbox); have n3_ := zK ((by rw [hg]; exact (yK (by repeat (first | (with_reducible first | exact HB.out | apply zJ | apply zD | apply zE | refine zI ?_ Z2.out) | exact HB.out))) : w.heap.size ≤ Z9)); have n4_ := zK ((by rw [hg]; exact (yK (by repeat (first | (with_reducible first | exact HB.out | apply zJ | apply zD | apply zE | refine zI ?_ Z2.out) | exact HB.out))) : w.heap.size ≤ Z9)); have n5_ := zK ((by rw [hg]; exact ym (yo (g := Z8) (o := .cells #[.slice A0_0 l0_0.length c0_0, .slice A0_1 l0_1.length c0_1, .slice A0_2 l0_2.length c0_2, .int .i64 a0_3, .int .i64 a0_4, .int .i64 a0_5] 36 (0, 0)) (by (with_reducible repeat (first | refine zF ?_ _ | refine zH ?_ | refine zG ?_ _)); exact Z0.out)) : Z8 ≠ Z9)); have n6_ := zK ((by rw [hg]; exact yn (yo (g := Z8) (o := .cells #[.slice A0_0 l0_0.length c0_0, .slice A0_1 l0_1.length c0_1, .slice A0_2 l0_2.length c0_2, .int .i64 a0_3, .int .i64 a0_4, .int .i64 a0_5] 36 (0, 0)) (by (with_reducible repeat (first | refine zF ?_ _ | refine zH ?_ | refine zG ?_ _)); exact Z0.out)) : Z9 ≠ Z8)); clear Z0 HB; have Z0 := n0_; have HB := n1_; have Z1 := n2_; have Z5 := n3_; have Z3 := n4_; have Z6 := n5_; have Z7 := n6_; clear n0_ n1_ n2_ n3_ n4_ n5_ n6_ hb hbox hg))
    have n0_ := zK (zH Z0.out)
    have n1_ := zK (zH Z1.out)
    have n2_ := zK (zE HB.out)
    clear Z0 Z1 HB
    have Z0 := n0_; have Z1 := n1_; have HB := n2_
    clear n0_ n1_ n2_
    refine start_ (n := 20) (S := fun w' => w'.cell? ⟨Z8, 0, none⟩ = some (.slice A0_0 l0_0.length c0_0) ∧ w'.cell? ⟨Z8, 1, none⟩ = some (.slice A0_1 l0_1.length c0_1) ∧ w'.cell? ⟨Z8, 2, none⟩ = some (.slice A0_2 l0_2.length c0_2) ∧ w'.cell? ⟨Z8, 3, none⟩ = some (.int .i64 a0_3) ∧ w'.cell? ⟨Z8, 4, none⟩ = some (.int .i64 a0_4) ∧ w'.cell? ⟨Z8, 5, none⟩ = some (.int .i64 a0_5)) (ds := []) #[false, false, false, false, false, false, false, false, false, false, false, false, false, false, false, false, false, false, false, false] (by kernel_rfl) rfl rfl ⟨(zO Z0.out 0).trans rfl, (zO Z0.out 1).trans rfl, (zO Z0.out 2).trans rfl, (zO Z0.out 3).trans rfl, (zO Z0.out 4).trans rfl, (zO Z0.out 5).trans rfl⟩ (fun hHeld => ?_); refine with_tabW w12_plain.tab1 w12_plain.bits1 (fun HT_ HW_ => ?_)
    generalize w6.drew = w7 at Z0 Z1 HB hHeld ⊢
    refine pure_ (i := 1) (N := some 4) (v := ?_) (a' := ?_) #[false, true, false, false, false, false, false, false, false, false, false, false, false, false, false, false, false, false, false, false] rfl rfl (any_of HT_.out (by kernel_rfl)) (fun _ _ _ h => h) (Or.inl ⟨by rfl, ?_⟩) ?_ ?_
    rotate_left
    ·intro w'
     go_simp
     with_reducible rfl
    rotate_left
    ·simp only [Act.put, zA, zB, zC, i64_w, i32_w]
     rfl
    refine pure_ (i := 5) (N := some 8) (v := ?_) (a' := ?_) #[false, true, false, false, false, true, false, false, false, false, false, false, false, false, false, false, false, false, false, false] rfl rfl (any_of HT_.out (by kernel_rfl)) (fun _ _ _ h => h) (Or.inl ⟨by rfl, ?_⟩) ?_ ?_
    rotate_left
    ·intro w'
     go_simp
     with_reducible rfl
    rotate_left
    ·simp only [Act.put, zA, zB, zC, i64_w, i32_w]
     rfl
    refine pure_ (i := 9) (N := some 12) (v := ?_) (a' := ?_) #[false, true, false, false, false, true, false, false, false, true, false, false, false, false, false, false, false, false, false, false] rfl rfl (any_of HT_.out (by kernel_rfl)) (fun _ _ _ h => h) (Or.inl ⟨by rfl, ?_⟩) ?_ ?_
    rotate_left
    ·intro w'
     go_simp
     with_reducible rfl
    rotate_left
    ·simp only [Act.put, zA, zB, zC, i64_w, i32_w]
     rfl
    refine pure_ (i := 12) (N := some 15) (v := ?_) (a' := ?_) #[false, true, false, false, false, true, false, false, false, true, false, false, true, false, false, false, false, false, false, false] rfl rfl (any_of HT_.out (by kernel_rfl)) (fun _ _ _ h => h) (Or.inl ⟨by rfl, ?_⟩) ?_ ?_
    rotate_left
    ·intro w'
     go_simp
     with_reducible rfl
    rotate_left
    ·simp only [Act.put, zA, zB, zC, i64_w, i32_w]
     rfl
    refine pure_ (i := 14) (N := some 17) (v := ?_) (a' := ?_) #[false, true, false, false, false, true, false, false, false, true, false, false, true, false, true, false, false, false, false, false] rfl rfl (any_of HT_.out (by kernel_rfl)) (fun _ _ _ h => h) (Or.inl ⟨by rfl, ?_⟩) ?_ ?_
    rotate_left
    ·intro w'
     go_simp
     with_reducible rfl
    rotate_left
    ·simp only [Act.put, zA, zB, zC, i64_w, i32_w]
     rfl
    refine pure_ (i := 16) (N := some 19) (v := ?_) (a' := ?_) #[false, true, false, false, false, true, false, false, false, true, false, false, true, false, true, false, true, false, false, false] rfl rfl (any_of HT_.out (by kernel_rfl)) (fun _ _ _ h => h) (Or.inl ⟨by rfl, ?_⟩) ?_ ?_
    rotate_left
    ·intro w'
     go_simp
     with_reducible rfl
    rotate_left
    ·simp only [Act.put, zA, zB, zC, i64_w, i32_w]
     rfl
    refine take_ (i := 2) (N := some 5) (v := ?_) (a' := ?_) #[false, true, true, false, false, true, false, false, false, true, false, false, true, false, true, false, true, false, false, false] rfl rfl (take_ofW HT_.out HW_.out (by kernel_rfl)) (fun _ _ _ h => h) (Or.inl ⟨by rfl, ?_⟩) hHeld ?_ ?_
    rotate_left
    ·rintro w' ⟨s0, s1, s2, s3, s4, s5⟩
     go_simp
     with_reducible rfl
    rotate_left
    ·simp only [Act.put, zA, zB, zC, i64_w, i32_w]
     rfl
    refine take_ (i := 6) (N := some 9) (v := ?_) (a' := ?_) #[false, true, true, false, false, true, true, false, false, true, false, false, true, false, true, false, true, false, false, false] rfl rfl (take_ofW HT_.out HW_.out (by kernel_rfl)) (fun _ _ _ h => h) (Or.inl ⟨by rfl, ?_⟩) hHeld ?_ ?_
    rotate_left
    ·rintro w' ⟨s0, s1, s2, s3, s4, s5⟩
     go_simp
     with_reducible rfl
    rotate_left
    ·simp only [Act.put, zA, zB, zC, i64_w, i32_w]
     rfl
    refine take_ (i := 10) (N := some 13) (v := ?_) (a' := ?_) #[false, true, true, false, false, true, true, false, false, true, true, false, true, false, true, false, true, false, false, false] rfl rfl (take_ofW HT_.out HW_.out (by kernel_rfl)) (fun _ _ _ h => h) (Or.inl ⟨by rfl, ?_⟩) hHeld ?_ ?_
    rotate_left
    ·rintro w' ⟨s0, s1, s2, s3, s4, s5⟩
     go_simp
     with_reducible rfl
    rotate_left
    ·simp only [Act.put, zA, zB, zC, i64_w, i32_w]
     rfl
    refine take_ (i := 13) (N := some 16) (v := ?_) (a' := ?_) #[false, true, true, false, false, true, true, false, false, true, true, false, true, true, true, false, true, false, false, false] rfl rfl (take_ofW HT_.out HW_.out (by kernel_rfl)) (fun _ _ _ h => h) (Or.inl ⟨by rfl, ?_⟩) hHeld ?_ ?_
    rotate_left
    ·rintro w' ⟨s0, s1, s2, s3, s4, s5⟩
     go_simp
     with_reducible rfl
    rotate_left
    ·simp only [Act.put, zA, zB, zC, i64_w, i32_w]
     rfl
    refine take_ (i := 15) (N := some 18) (v := ?_) (a' := ?_) #[false, true, true, false, false, true, true, false, false, true, true, false, true, true, true, true, true, false, false, false] rfl rfl (take_ofW HT_.out HW_.out (by kernel_rfl)) (fun _ _ _ h => h) (Or.inl ⟨by rfl, ?_⟩) hHeld ?_ ?_
    rotate_left
    ·rintro w' ⟨s0, s1, s2, s3, s4, s5⟩
     go_simp
     with_reducible rfl
    rotate_left
    ·simp only [Act.put, zA, zB, zC, i64_w, i32_w]
     rfl
    refine take_ (i := 17) (N := some 20) (v := ?_) (a' := ?_) #[false, true, true, false, false, true, true, false, false, true, true, false, true, true, true, true, true, true, false, false] rfl rfl (take_ofW HT_.out HW_.out (by kernel_rfl)) (fun _ _ _ h => h) (Or.inl ⟨by rfl, ?_⟩) hHeld ?_ ?_
    rotate_left
    ·rintro w' ⟨s0, s1, s2, s3, s4, s5⟩
     go_simp
     with_reducible rfl
    rotate_left
    ·simp only [Act.put, zA, zB, zC, i64_w, i32_w]
     rfl
    refine join_ (σ := Value × Value × Value × Value × Value) 3 w12_plain.b0 (fun s_ => [(3, s_.1), (6, s_.2.1), (7, s_.2.2.1), (10, s_.2.2.2.1), (11, s_.2.2.2.2)]) (fun s_ w' => (w'.cell? ⟨Z8, 0, none⟩ = some (.slice A0_0 l0_0.length c0_0) ∧ w'.cell? ⟨Z8, 1, none⟩ = some (.slice A0_1 l0_1.length c0_1) ∧ w'.cell? ⟨Z8, 2, none⟩ = some (.slice A0_2 l0_2.length c0_2) ∧ w'.cell? ⟨Z8, 3, none⟩ = some (.int .i64 a0_3) ∧ w'.cell? ⟨Z8, 4, none⟩ = some (.int .i64 a0_4) ∧ w'.cell? ⟨Z8, 5, none⟩ = some (.int .i64 a0_5)) ∧ (Kd.R (Kd.int .i8) 30 w' w.heap.size (fun k_ => some k_ ≠ (s_.2.2.2.1 : Value).ownBlock ∧ some k_ ≠ (s_.2.2.2.2 : Value).ownBlock) s_.2.1 y390) ∧ (Kd.R (Kd.int .i8) 30 w' w.heap.size (fun k_ => some k_ ≠ (s_.2.1 : Value).ownBlock ∧ some k_ ≠ (s_.2.2.2.2 : Value).ownBlock) s_.2.2.2.1 y396) ∧ (Kd.R (Kd.int .i8) 30 w' w.heap.size (fun k_ => some k_ ≠ (s_.2.1 : Value).ownBlock ∧ some k_ ≠ (s_.2.2.2.1 : Value).ownBlock) s_.2.2.2.2 y399) ∧ (w'.heap[Z8]? = some (.cells #[.slice A0_0 l0_0.length c0_0, .slice A0_1 l0_1.length c0_1, .slice A0_2 l0_2.length c0_2, .int .i64 a0_3, .int .i64 a0_4, .int .i64 a0_5] 36 (0, 0))) ∧ (w'.heap[Z9]? = some (.cells #[.slice none 0 0, .slice none 0 0, .slice none 0 0, .int .i64 0, .int .i64 0, .int .i64 0] 43 (0, 0))) ∧ (Below w.heap.size w w')) ?_ ?_
    rotate_left
    ·intro hJ0_3_4_7_8
     refine join_ (σ := Value × Value × Value × Value) 4 w12_plain.b1 (fun s_ => [(3, s_.1), (6, s_.2.1), (7, s_.2.2.1), (10, s_.2.2.2)]) (fun s_ w' => (w'.cell? ⟨Z8, 0, none⟩ = some (.slice A0_0 l0_0.length c0_0) ∧ w'.cell? ⟨Z8, 1, none⟩ = some (.slice A0_1 l0_1.length c0_1) ∧ w'.cell? ⟨Z8, 2, none⟩ = some (.slice A0_2 l0_2.length c0_2) ∧ w'.cell? ⟨Z8, 3, none⟩ = some (.int .i64 a0_3) ∧ w'.cell? ⟨Z8, 4, none⟩ = some (.int .i64 a0_4) ∧ w'.cell? ⟨Z8, 5, none⟩ = some (.int .i64 a0_5)) ∧ (Kd.R (Kd.int .i8) 30 w' w.heap.size (fun k_ => some k_ ≠ (s_.2.2.2 : Value).ownBlock) s_.2.1 y390) ∧ (Kd.R (Kd.int .i8) 30 w' w.heap.size (fun k_ => some k_ ≠ (s_.2.1 : Value).ownBlock) s_.2.2.2 y396) ∧ (w'.heap[Z8]? = some (.cells #[.slice A0_0 l0_0.length c0_0, .slice A0_1 l0_1.length c0_1, .slice A0_2 l0_2.length c0_2, .int .i64 a0_3, .int .i64 a0_4, .int .i64 a0_5] 36 (0, 0))) ∧ (w'.heap[Z9]? = some (.cells #[.slice none 0 0, .slice none 0 0, .slice none 0 0, .int .i64 0, .int .i64 0, .int .i64 0] 43 (0, 0))) ∧ (Below w.heap.size w w')) ?_ ?_
     rotate_left
     ·intro hJ0_3_4_7
      refine join_ (σ := Value × Value × Value × Value) 4 w12_plain.b2 (fun s_ => [(3, s_.1), (6, s_.2.1), (7, s_.2.2.1), (11, s_.2.2.2)]) (fun s_ w' => (w'.cell? ⟨Z8, 0, none⟩ = some (.slice A0_0 l0_0.length c0_0) ∧ w'.cell? ⟨Z8, 1, none⟩ = some (.slice A0_1 l0_1.length c0_1) ∧ w'.cell? ⟨Z8, 2, none⟩ = some (.slice A0_2 l0_2.length c0_2) ∧ w'.cell? ⟨Z8, 3, none⟩ = some (.int .i64 a0_3) ∧ w'.cell? ⟨Z8, 4, none⟩ = some (.int .i64 a0_4) ∧ w'.cell? ⟨Z8, 5, none⟩ = some (.int .i64 a0_5)) ∧ (Kd.R (Kd.int .i8) 30 w' w.heap.size (fun k_ => some k_ ≠ (s_.2.2.1 : Value).ownBlock ∧ some k_ ≠ (s_.2.2.2 : Value).ownBlock) s_.2.1 y390) ∧ (Kd.R (Kd.int .i8) 30 w' w.heap.size (fun k_ => some k_ ≠ (s_.2.1 : Value).ownBlock ∧ some k_ ≠ (s_.2.2.2 : Value).ownBlock) s_.2.2.1 y393) ∧ (Kd.R (Kd.int .i8) 30 w' w.heap.size (fun k_ => some k_ ≠ (s_.2.1 : Value).ownBlock ∧ some k_ ≠ (s_.2.2.1 : Value).ownBlock) s_.2.2.2 y399) ∧ (w'.heap[Z8]? = some (.cells #[.slice A0_0 l0_0.length c0_0, .slice A0_1 l0_1.length c0_1, .slice A0_2 l0_2.length c0_2, .int .i64 a0_3, .int .i64 a0_4, .int .i64 a0_5] 36 (0, 0))) ∧ (w'.heap[Z9]? = some (.cells #[.slice none 0 0, .slice none 0 0, .slice none 0 0, .int .i64 0, .int .i64 0, .int .i64 0] 43 (0, 0))) ∧ (Below w.heap.size w w')) ?_ ?_
      rotate_left
      ·intro hJ0_3_4_8
       refine join_ (σ := Value × Value × Value) 5 w12_plain.b3 (fun s_ => [(3, s_.1), (6, s_.2.1), (7, s_.2.2)]) (fun s_ w' => (w'.cell? ⟨Z8, 0, none⟩ = some (.slice A0_0 l0_0.length c0_0) ∧ w'.cell? ⟨Z8, 1, none⟩ = some (.slice A0_1 l0_1.length c0_1) ∧ w'.cell? ⟨Z8, 2, none⟩ = some (.slice A0_2 l0_2.length c0_2) ∧ w'.cell? ⟨Z8, 3, none⟩ = some (.int .i64 a0_3) ∧ w'.cell? ⟨Z8, 4, none⟩ = some (.int .i64 a0_4) ∧ w'.cell? ⟨Z8, 5, none⟩ = some (.int .i64 a0_5)) ∧ (Kd.R (Kd.int .i8) 30 w' w.heap.size (fun k_ => some k_ ≠ (s_.2.2 : Value).ownBlock) s_.2.1 y390) ∧ (Kd.R (Kd.int .i8) 30 w' w.heap.size (fun k_ => some k_ ≠ (s_.2.1 : Value).ownBlock) s_.2.2 y393) ∧ (w'.heap[Z8]? = some (.cells #[.slice A0_0 l0_0.length c0_0, .slice A0_1 l0_1.length c0_1, .slice A0_2 l0_2.length c0_2, .int .i64 a0_3, .int .i64 a0_4, .int .i64 a0_5] 36 (0, 0))) ∧ (w'.heap[Z9]? = some (.cells #[.slice none 0 0, .slice none 0 0, .slice none 0 0, .int .i64 0, .int .i64 0, .int .i64 0] 43 (0, 0))) ∧ (Below w.heap.size w w')) ?_ ?_
       rotate_left
       ·intro hJ0_3_4
        refine join_ (σ := Value × Value × Value) 5 w12_plain.b4 (fun s_ => [(3, s_.1), (6, s_.2.1), (11, s_.2.2)]) (fun s_ w' => (w'.cell? ⟨Z8, 0, none⟩ = some (.slice A0_0 l0_0.length c0_0) ∧ w'.cell? ⟨Z8, 1, none⟩ = some (.slice A0_1 l0_1.length c0_1) ∧ w'.cell? ⟨Z8, 2, none⟩ = some (.slice A0_2 l0_2.length c0_2) ∧ w'.cell? ⟨Z8, 3, none⟩ = some (.int .i64 a0_3) ∧ w'.cell? ⟨Z8, 4, none⟩ = some (.int .i64 a0_4) ∧ w'.cell? ⟨Z8, 5, none⟩ = some (.int .i64 a0_5)) ∧ (Kd.R (Kd.int .i8) 30 w' w.heap.size (fun k_ => some k_ ≠ (s_.2.2 : Value).ownBlock) s_.2.1 y390) ∧ (Kd.R (Kd.int .i8) 30 w' w.heap.size (fun k_ => some k_ ≠ (s_.2.1 : Value).ownBlock) s_.2.2 y399) ∧ (w'.heap[Z8]? = some (.cells #[.slice A0_0 l0_0.length c0_0, .slice A0_1 l0_1.length c0_1, .slice A0_2 l0_2.length c0_2, .int .i64 a0_3, .int .i64 a0_4, .int .i64 a0_5] 36 (0, 0))) ∧ (w'.heap[Z9]? = some (.cells #[.slice none 0 0, .slice none 0 0, .slice none 0 0, .int .i64 0, .int .i64 0, .int .i64 0] 43 (0, 0))) ∧ (Below w.heap.size w w')) ?_ ?_
        rotate_left
        ·intro hJ0_3_8
         refine join_ (σ := Value × Value × Value) 5 w12_plain.b5 (fun s_ => [(3, s_.1), (7, s_.2.1), (11, s_.2.2)]) (fun s_ w' => (w'.cell? ⟨Z8, 0, none⟩ = some (.slice A0_0 l0_0.length c0_0) ∧ w'.cell? ⟨Z8, 1, none⟩ = some (.slice A0_1 l0_1.length c0_1) ∧ w'.cell? ⟨Z8, 2, none⟩ = some (.slice A0_2 l0_2.length c0_2) ∧ w'.cell? ⟨Z8, 3, none⟩ = some (.int .i64 a0_3) ∧ w'.cell? ⟨Z8, 4, none⟩ = some (.int .i64 a0_4) ∧ w'.cell? ⟨Z8, 5, none⟩ = some (.int .i64 a0_5)) ∧ (Kd.R (Kd.int .i8) 30 w' w.heap.size (fun k_ => some k_ ≠ (s_.2.1 : Value).ownBlock ∧ some k_ ≠ (s_.2.2 : Value).ownBlock) s_.1 y387) ∧ (Kd.R (Kd.int .i8) 30 w' w.heap.size (fun k_ => some k_ ≠ (s_.1 : Value).ownBlock ∧ some k_ ≠ (s_.2.2 : Value).ownBlock) s_.2.1 y393) ∧ (Kd.R (Kd.int .i8) 30 w' w.heap.size (fun k_ => some k_ ≠ (s_.1 : Value).ownBlock ∧ some k_ ≠ (s_.2.1 : Value).ownBlock) s_.2.2 y399) ∧ (w'.heap[Z8]? = some (.cells #[.slice A0_0 l0_0.length c0_0, .slice A0_1 l0_1.length c0_1, .slice A0_2 l0_2.length c0_2, .int .i64 a0_3, .int .i64 a0_4, .int .i64 a0_5] 36 (0, 0))) ∧ (w'.heap[Z9]? = some (.cells #[.slice none 0 0, .slice none 0 0, .slice none 0 0, .int .i64 0, .int .i64 0, .int .i64 0] 43 (0, 0))) ∧ (Below w.heap.size w w')) ?_ ?_
         rotate_left
         ·intro hJ0_4_8
          refine join_ (σ := Value × Value) 6 w12_plain.b6 (fun s_ => [(3, s_.1), (6, s_.2)]) (fun s_ w' => (w'.cell? ⟨Z8, 0, none⟩ = some (.slice A0_0 l0_0.length c0_0) ∧ w'.cell? ⟨Z8, 1, none⟩ = some (.slice A0_1 l0_1.length c0_1) ∧ w'.cell? ⟨Z8, 2, none⟩ = some (.slice A0_2 l0_2.length c0_2) ∧ w'.cell? ⟨Z8, 3, none⟩ = some (.int .i64 a0_3) ∧ w'.cell? ⟨Z8, 4, none⟩ = some (.int .i64 a0_4) ∧ w'.cell? ⟨Z8, 5, none⟩ = some (.int .i64 a0_5)) ∧ (Kd.R (Kd.int .i8) 30 w' w.heap.size (fun _ => True) s_.2 y390) ∧ (w'.heap[Z8]? = some (.cells #[.slice A0_0 l0_0.length c0_0, .slice A0_1 l0_1.length c0_1, .slice A0_2 l0_2.length c0_2, .int .i64 a0_3, .int .i64 a0_4, .int .i64 a0_5] 36 (0, 0))) ∧ (w'.heap[Z9]? = some (.cells #[.slice none 0 0, .slice none 0 0, .slice none 0 0, .int .i64 0, .int .i64 0, .int .i64 0] 43 (0, 0))) ∧ (Below w.heap.size w w')) ?_ ?_
          rotate_left
          ·intro hJ0_3
           refine join_ (σ := Value × Value) 6 w12_plain.b7 (fun s_ => [(3, s_.1), (7, s_.2)]) (fun s_ w' => (w'.cell? ⟨Z8, 0, none⟩ = some (.slice A0_0 l0_0.length c0_0) ∧ w'.cell? ⟨Z8, 1, none⟩ = some (.slice A0_1 l0_1.length c0_1) ∧ w'.cell? ⟨Z8, 2, none⟩ = some (.slice A0_2 l0_2.length c0_2) ∧ w'.cell? ⟨Z8, 3, none⟩ = some (.int .i64 a0_3) ∧ w'.cell? ⟨Z8, 4, none⟩ = some (.int .i64 a0_4) ∧ w'.cell? ⟨Z8, 5, none⟩ = some (.int .i64 a0_5)) ∧ (Kd.R (Kd.int .i8) 30 w' w.heap.size (fun k_ => some k_ ≠ (s_.2 : Value).ownBlock) s_.1 y387) ∧ (Kd.R (Kd.int .i8) 30 w' w.heap.size (fun k_ => some k_ ≠ (s_.1 : Value).ownBlock) s_.2 y393) ∧ (w'.heap[Z8]? = some (.cells #[.slice A0_0 l0_0.length c0_0, .slice A0_1 l0_1.length c0_1, .slice A0_2 l0_2.length c0_2, .int .i64 a0_3, .int .i64 a0_4, .int .i64 a0_5] 36 (0, 0))) ∧ (w'.heap[Z9]? = some (.cells #[.slice none 0 0, .slice none 0 0, .slice none 0 0, .int .i64 0, .int .i64 0, .int .i64 0] 43 (0, 0))) ∧ (Below w.heap.size w w')) ?_ ?_
           rotate_left
           ·intro hJ0_4
            refine join_ (σ := Value × Value) 6 w12_plain.b8 (fun s_ => [(3, s_.1), (11, s_.2)]) (fun s_ w' => (w'.cell? ⟨Z8, 0, none⟩ = some (.slice A0_0 l0_0.length c0_0) ∧ w'.cell? ⟨Z8, 1, none⟩ = some (.slice A0_1 l0_1.length c0_1) ∧ w'.cell? ⟨Z8, 2, none⟩ = some (.slice A0_2 l0_2.length c0_2) ∧ w'.cell? ⟨Z8, 3, none⟩ = some (.int .i64 a0_3) ∧ w'.cell? ⟨Z8, 4, none⟩ = some (.int .i64 a0_4) ∧ w'.cell? ⟨Z8, 5, none⟩ = some (.int .i64 a0_5)) ∧ (Kd.R (Kd.int .i8) 30 w' w.heap.size (fun k_ => some k_ ≠ (s_.2 : Value).ownBlock) s_.1 y387) ∧ (Kd.R (Kd.int .i8) 30 w' w.heap.size (fun k_ => some k_ ≠ (s_.1 : Value).ownBlock) s_.2 y399) ∧ (w'.heap[Z8]? = some (.cells #[.slice A0_0 l0_0.length c0_0, .slice A0_1 l0_1.length c0_1, .slice A0_2 l0_2.length c0_2, .int .i64 a0_3, .int .i64 a0_4, .int .i64 a0_5] 36 (0, 0))) ∧ (w'.heap[Z9]? = some (.cells #[.slice none 0 0, .slice none 0 0, .slice none 0 0, .int .i64 0, .int .i64 0, .int .i64 0] 43 (0, 0))) ∧ (Below w.heap.size w w')) ?_ ?_
            rotate_left
            ·intro hJ0_8
             refine join_ (σ := Value × Value) 6 w12_plain.b9 (fun s_ => [(7, s_.1), (11, s_.2)]) (fun s_ w' => (w'.cell? ⟨Z8, 0, none⟩ = some (.slice A0_0 l0_0.length c0_0) ∧ w'.cell? ⟨Z8, 1, none⟩ = some (.slice A0_1 l0_1.length c0_1) ∧ w'.cell? ⟨Z8, 2, none⟩ = some (.slice A0_2 l0_2.length c0_2) ∧ w'.cell? ⟨Z8, 3, none⟩ = some (.int .i64 a0_3) ∧ w'.cell? ⟨Z8, 4, none⟩ = some (.int .i64 a0_4) ∧ w'.cell? ⟨Z8, 5, none⟩ = some (.int .i64 a0_5)) ∧ (Kd.R (Kd.int .i8) 30 w' w.heap.size (fun k_ => some k_ ≠ (s_.2 : Value).ownBlock) s_.1 y393) ∧ (Kd.R (Kd.int .i8) 30 w' w.heap.size (fun k_ => some k_ ≠ (s_.1 : Value).ownBlock) s_.2 y399) ∧ (w'.heap[Z8]? = some (.cells #[.slice A0_0 l0_0.length c0_0, .slice A0_1 l0_1.length c0_1, .slice A0_2 l0_2.length c0_2, .int .i64 a0_3, .int .i64 a0_4, .int .i64 a0_5] 36 (0, 0))) ∧ (w'.heap[Z9]? = some (.cells #[.slice none 0 0, .slice none 0 0, .slice none 0 0, .int .i64 0, .int .i64 0, .int .i64 0] 43 (0, 0))) ∧ (Below w.heap.size w w')) ?_ ?_
             rotate_left
             ·intro hJ4_8
              refine join_ (σ := Value) 7 w12_plain.b10 (fun s_ => [(3, s_)]) (fun s_ w' => (w'.cell? ⟨Z8, 0, none⟩ = some (.slice A0_0 l0_0.length c0_0) ∧ w'.cell? ⟨Z8, 1, none⟩ = some (.slice A0_1 l0_1.length c0_1) ∧ w'.cell? ⟨Z8, 2, none⟩ = some (.slice A0_2 l0_2.length c0_2) ∧ w'.cell? ⟨Z8, 3, none⟩ = some (.int .i64 a0_3) ∧ w'.cell? ⟨Z8, 4, none⟩ = some (.int .i64 a0_4) ∧ w'.cell? ⟨Z8, 5, none⟩ = some (.int .i64 a0_5)) ∧ (Kd.R (Kd.int .i8) 30 w' w.heap.size (fun _ => True) s_ y387) ∧ (w'.heap[Z8]? = some (.cells #[.slice A0_0 l0_0.length c0_0, .slice A0_1 l0_1.length c0_1, .slice A0_2 l0_2.length c0_2, .int .i64 a0_3, .int .i64 a0_4, .int .i64 a0_5] 36 (0, 0))) ∧ (w'.heap[Z9]? = some (.cells #[.slice none 0 0, .slice none 0 0, .slice none 0 0, .int .i64 0, .int .i64 0, .int .i64 0] 43 (0, 0))) ∧ (Below w.heap.size w w')) ?_ ?_
              rotate_left
              ·intro hJ0
               refine join_ (σ := Value) 7 w12_plain.b11 (fun s_ => [(7, s_)]) (fun s_ w' => (w'.cell? ⟨Z8, 0, none⟩ = some (.slice A0_0 l0_0.length c0_0) ∧ w'.cell? ⟨Z8, 1, none⟩ = some (.slice A0_1 l0_1.length c0_1) ∧ w'.cell? ⟨Z8, 2, none⟩ = some (.slice A0_2 l0_2.length c0_2) ∧ w'.cell? ⟨Z8, 3, none⟩ = some (.int .i64 a0_3) ∧ w'.cell? ⟨Z8, 4, none⟩ = some (.int .i64 a0_4) ∧ w'.cell? ⟨Z8, 5, none⟩ = some (.int .i64 a0_5)) ∧ (Kd.R (Kd.int .i8) 30 w' w.heap.size (fun _ => True) s_ y393) ∧ (w'.heap[Z8]? = some (.cells #[.slice A0_0 l0_0.length c0_0, .slice A0_1 l0_1.length c0_1, .slice A0_2 l0_2.length c0_2, .int .i64 a0_3, .int .i64 a0_4, .int .i64 a0_5] 36 (0, 0))) ∧ (w'.heap[Z9]? = some (.cells #[.slice none 0 0, .slice none 0 0, .slice none 0 0, .int .i64 0, .int .i64 0, .int .i64 0] 43 (0, 0))) ∧ (Below w.heap.size w w')) ?_ ?_
               rotate_left
               ·intro hJ4
                refine join_ (σ := Value) 7 w12_plain.b12 (fun s_ => [(11, s_)]) (fun s_ w' => (w'.cell? ⟨Z8, 0, none⟩ = some (.slice A0_0 l0_0.length c0_0) ∧ w'.cell? ⟨Z8, 1, none⟩ = some (.slice A0_1 l0_1.length c0_1) ∧ w'.cell? ⟨Z8, 2, none⟩ = some (.slice A0_2 l0_2.length c0_2) ∧ w'.cell? ⟨Z8, 3, none⟩ = some (.int .i64 a0_3) ∧ w'.cell? ⟨Z8, 4, none⟩ = some (.int .i64 a0_4) ∧ w'.cell? ⟨Z8, 5, none⟩ = some (.int .i64 a0_5)) ∧ (Kd.R (Kd.int .i8) 30 w' w.heap.size (fun _ => True) s_ y399) ∧ (w'.heap[Z8]? = some (.cells #[.slice A0_0 l0_0.length c0_0, .slice A0_1 l0_1.length c0_1, .slice A0_2 l0_2.length c0_2, .int .i64 a0_3, .int .i64 a0_4, .int .i64 a0_5] 36 (0, 0))) ∧ (w'.heap[Z9]? = some (.cells #[.slice none 0 0, .slice none 0 0, .slice none 0 0, .int .i64 0, .int .i64 0, .int .i64 0] 43 (0, 0))) ∧ (Below w.heap.size w w')) ?_ ?_
                rotate_left
                ·intro hJ8
                 refine three_ (i := 0) (j := 4) (k := 8) (Ni := some 3) (Nj := some 7) (Nk := some 11) w12_plain.b10 w12_plain.b11 w12_plain.b12 rfl rfl rfl rfl rfl rfl (three_of HT_.out (by kernel_rfl)) (by decide) (by decide) (by decide) (fun K hK => ?_) (fun K hK => ?_) (fun K hK => ?_)
                 ·skip
                  refine Kd.R_lit_step (Kd.int .i8) _ 30 ?hg (N := 3) ?hd (xs := ([] : List Int)) (inner := []) (ok := fun _ => True) (okp := fun _ => True) ?hr ?hp (fun _ hk => hk) trivial (Below.refl _ _) (yN _) (by simp) ?_; (case hd => rfl); (case hg => rfl); (case hr => first | (go_simp; done) | (go_simp; rfl)); (case hp => exact (Reps.none _ _))
                  intro v388 w8 ho9 hb hg_ hnew_
                  clear hg_ hnew_
                  (first | rw [← Ny387.out] at ho9 | (simp only [Int.reduceToNat] at ho9; rw [← Ny387.out] at ho9))
                  have n0_ := zK (Kd.R_lower ho9 (yK (by repeat (first | (with_reducible first | exact HB.out | apply zJ | apply zD | apply zE | refine zI ?_ Z2.out | refine zI ?_ Z3.out) | exact HB.out))))
                  have n1_ := zK (zP (g := Z8) (o := .cells #[.slice A0_0 l0_0.length c0_0, .slice A0_1 l0_1.length c0_1, .slice A0_2 l0_2.length c0_2, .int .i64 a0_3, .int .i64 a0_4, .int .i64 a0_5] 36 (0, 0)) (by (with_reducible repeat (first | refine zF ?_ _ | refine zH ?_ | refine zG ?_ _)); exact Z0.out) hb)
                  have n2_ := zK (zP (g := Z9) (o := .cells #[.slice none 0 0, .slice none 0 0, .slice none 0 0, .int .i64 0, .int .i64 0, .int .i64 0] 43 (0, 0)) (by (with_reducible repeat (first | refine zF ?_ _ | refine zH ?_ | refine zG ?_ _)); exact Z1.out) hb)
                  have n3_ := zK (yL (by repeat (first | (with_reducible first | exact HB.out | apply zJ | apply zD | apply zE | refine zI ?_ Z2.out | refine zI ?_ Z3.out) | exact HB.out)) hb)
                  clear Z0 Z1 HB
                  have HO389 := n0_; have Z0 := n1_; have Z1 := n2_; have HB := n3_
                  clear n0_ n1_ n2_ n3_ hb ho9
                  refine hK.out _ _ ⟨(zO Z0.out 0).trans rfl, (zO Z0.out 1).trans rfl, (zO Z0.out 2).trans rfl, (zO Z0.out 3).trans rfl, (zO Z0.out 4).trans rfl, (zO Z0.out 5).trans rfl⟩ (fun hHeld => ?_)
                  clear hK K
                  refine norm_ (a' := ?_) ?_ ?_
                  rotate_left
                  ·show Act.put _ (some 3) _ = _
                   simp only [Act.put, zA, zB, zC, i64_w, i32_w]
                   rfl
                  exact norm_ (by first | (simp only [putAll, Act.put, zA, zB, zC]; done) | (simp only [putAll, Act.put, zA, zB, zC]; rfl)) (hJ0 (v388) _ ⟨hHeld, (by (with_reducible repeat (first | apply zL | apply zM | apply zN)); exact HO389.out), (by (with_reducible repeat (first | refine zF ?_ _ | refine zH ?_ | refine zG ?_ _)); exact Z0.out), (by (with_reducible repeat (first | refine zF ?_ _ | refine zH ?_ | refine zG ?_ _)); exact Z1.out), (by repeat (first | (with_reducible first | exact HB.out | apply zJ | apply zD | apply zE | refine zI ?_ Z2.out | refine zI ?_ Z3.out) | exact HB.out))⟩)
                 ·skip
                  refine Kd.R_lit_step (Kd.int .i8) _ 30 ?hg (N := 7) ?hd (xs := ([] : List Int)) (inner := []) (ok := fun _ => True) (okp := fun _ => True) ?hr ?hp (fun _ hk => hk) trivial (Below.refl _ _) (yN _) (by simp) ?_; (case hd => rfl); (case hg => rfl); (case hr => first | (go_simp; done) | (go_simp; rfl)); (case hp => exact (Reps.none _ _))
                  intro v394 w8 ho9 hb hg_ hnew_
                  clear hg_ hnew_
                  (first | rw [← Ny393.out] at ho9 | (simp only [Int.reduceToNat] at ho9; rw [← Ny393.out] at ho9))
                  have n0_ := zK (Kd.R_lower ho9 (yK (by repeat (first | (with_reducible first | exact HB.out | apply zJ | apply zD | apply zE | refine zI ?_ Z2.out | refine zI ?_ Z3.out) | exact HB.out))))
                  have n1_ := zK (zP (g := Z8) (o := .cells #[.slice A0_0 l0_0.length c0_0, .slice A0_1 l0_1.length c0_1, .slice A0_2 l0_2.length c0_2, .int .i64 a0_3, .int .i64 a0_4, .int .i64 a0_5] 36 (0, 0)) (by (with_reducible repeat (first | refine zF ?_ _ | refine zH ?_ | refine zG ?_ _)); exact Z0.out) hb)
                  have n2_ := zK (zP (g := Z9) (o := .cells #[.slice none 0 0, .slice none 0 0, .slice none 0 0, .int .i64 0, .int .i64 0, .int .i64 0] 43 (0, 0)) (by (with_reducible repeat (first | refine zF ?_ _ | refine zH ?_ | refine zG ?_ _)); exact Z1.out) hb)
                  have n3_ := zK (yL (by repeat (first | (with_reducible first | exact HB.out | apply zJ | apply zD | apply zE | refine zI ?_ Z2.out | refine zI ?_ Z3.out) | exact HB.out)) hb)
                  clear Z0 Z1 HB
                  have HO395 := n0_; have Z0 := n1_; have Z1 := n2_; have HB := n3_
                  clear n0_ n1_ n2_ n3_ hb ho9
                  refine hK.out _ _ ⟨(zO Z0.out 0).trans rfl, (zO Z0.out 1).trans rfl, (zO Z0.out 2).trans rfl, (zO Z0.out 3).trans rfl, (zO Z0.out 4).trans rfl, (zO Z0.out 5).trans rfl⟩ (fun hHeld => ?_)
                  clear hK K
                  refine norm_ (a' := ?_) ?_ ?_
                  rotate_left
                  ·show Act.put _ (some 7) _ = _
                   simp only [Act.put, zA, zB, zC, i64_w, i32_w]
                   rfl
                  exact norm_ (by first | (simp only [putAll, Act.put, zA, zB, zC]; done) | (simp only [putAll, Act.put, zA, zB, zC]; rfl)) (hJ4 (v394) _ ⟨hHeld, (by (with_reducible repeat (first | apply zL | apply zM | apply zN)); exact HO395.out), (by (with_reducible repeat (first | refine zF ?_ _ | refine zH ?_ | refine zG ?_ _)); exact Z0.out), (by (with_reducible repeat (first | refine zF ?_ _ | refine zH ?_ | refine zG ?_ _)); exact Z1.out), (by repeat (first | (with_reducible first | exact HB.out | apply zJ | apply zD | apply zE | refine zI ?_ Z2.out | refine zI ?_ Z3.out) | exact HB.out))⟩)
                 ·skip
                  refine Kd.R_lit_step (Kd.int .i8) _ 30 ?hg (N := 11) ?hd (xs := ([] : List Int)) (inner := []) (ok := fun _ => True) (okp := fun _ => True) ?hr ?hp (fun _ hk => hk) trivial (Below.refl _ _) (yN _) (by simp) ?_; (case hd => rfl); (case hg => rfl); (case hr => first | (go_simp; done) | (go_simp; rfl)); (case hp => exact (Reps.none _ _))
                  intro v400 w8 ho9 hb hg_ hnew_
                  clear hg_ hnew_
                  (first | rw [← Ny399.out] at ho9 | (simp only [Int.reduceToNat] at ho9; rw [← Ny399.out] at ho9))
                  have n0_ := zK (Kd.R_lower ho9 (yK (by repeat (first | (with_reducible first | exact HB.out | apply zJ | apply zD | apply zE | refine zI ?_ Z2.out | refine zI ?_ Z3.out) | exact HB.out))))
                  have n1_ := zK (zP (g := Z8) (o := .cells #[.slice A0_0 l0_0.length c0_0, .slice A0_1 l0_1.length c0_1, .slice A0_2 l0_2.length c0_2, .int .i64 a0_3, .int .i64 a0_4, .int .i64 a0_5] 36 (0, 0)) (by (with_reducible repeat (first | refine zF ?_ _ | refine zH ?_ | refine zG ?_ _)); exact Z0.out) hb)
                  have n2_ := zK (zP (g := Z9) (o := .cells #[.slice none 0 0, .slice none 0 0, .slice none 0 0, .int .i64 0, .int .i64 0, .int .i64 0] 43 (0, 0)) (by (with_reducible repeat (first | refine zF ?_ _ | refine zH ?_ | refine zG ?_ _)); exact Z1.out) hb)
                  have n3_ := zK (yL (by repeat (first | (with_reducible first | exact HB.out | apply zJ | apply zD | apply zE | refine zI ?_ Z2.out | refine zI ?_ Z3.out) | exact HB.out)) hb)
                  clear Z0 Z1 HB
                  have HO401 := n0_; have Z0 := n1_; have Z1 := n2_; have HB := n3_
                  clear n0_ n1_ n2_ n3_ hb ho9
                  refine hK.out _ _ ⟨(zO Z0.out 0).trans rfl, (zO Z0.out 1).trans rfl, (zO Z0.out 2).trans rfl, (zO Z0.out 3).trans rfl, (zO Z0.out 4).trans rfl, (zO Z0.out 5).trans rfl⟩ (fun hHeld => ?_)
                  clear hK K
                  refine norm_ (a' := ?_) ?_ ?_
                  rotate_left
                  ·show Act.put _ (some 11) _ = _
                   simp only [Act.put, zA, zB, zC, i64_w, i32_w]
                   rfl
                  exact norm_ (by first | (simp only [putAll, Act.put, zA, zB, zC]; done) | (simp only [putAll, Act.put, zA, zB, zC]; rfl)) (hJ8 (v400) _ ⟨hHeld, (by (with_reducible repeat (first | apply zL | apply zM | apply zN)); exact HO401.out), (by (with_reducible repeat (first | refine zF ?_ _ | refine zH ?_ | refine zG ?_ _)); exact Z0.out), (by (with_reducible repeat (first | refine zF ?_ _ | refine zH ?_ | refine zG ?_ _)); exact Z1.out), (by repeat (first | (with_reducible first | exact HB.out | apply zJ | apply zD | apply zE | refine zI ?_ Z2.out | refine zI ?_ Z3.out) | exact HB.out))⟩)
                ·skip
                 rintro v400 w10 ⟨hS_, h0_, h1_, h2_, h3_⟩
                 have n0_ : Aside0 (Kd.R (Kd.int .i8) 30 w10 w.heap.size (fun _ => True) v400 y399) := ⟨h0_⟩
                 have n1_ : Aside0 (w10.heap[Z8]? = some (.cells #[.slice A0_0 l0_0.length c0_0, .slice A0_1 l0_1.length c0_1, .slice A0_2 l0_2.length c0_2, .int .i64 a0_3, .int .i64 a0_4, .int .i64 a0_5] 36 (0, 0))) := ⟨h1_⟩
                 have n2_ : Aside0 (w10.heap[Z9]? = some (.cells #[.slice none 0 0, .slice none 0 0, .slice none 0 0, .int .i64 0, .int .i64 0, .int .i64 0] 43 (0, 0))) := ⟨h2_⟩
                 have n3_ : Aside0 (Below w.heap.size w w10) := ⟨h3_⟩
                 clear Z0 Z1 HB h0_ h1_ h2_ h3_
                 have HO401 := n0_; have Z0 := n1_; have Z1 := n2_; have HB := n3_
                 clear n0_ n1_ n2_ n3_
                 have hHeld : w10.cell? ⟨Z8, 0, none⟩ = some (.slice A0_0 l0_0.length c0_0) ∧ w10.cell? ⟨Z8, 1, none⟩ = some (.slice A0_1 l0_1.length c0_1) ∧ w10.cell? ⟨Z8, 2, none⟩ = some (.slice A0_2 l0_2.length c0_2) ∧ w10.cell? ⟨Z8, 3, none⟩ = some (.int .i64 a0_3) ∧ w10.cell? ⟨Z8, 4, none⟩ = some (.int .i64 a0_4) ∧ w10.cell? ⟨Z8, 5, none⟩ = some (.int .i64 a0_5) := hS_
                 refine norm_ (a' := ?_) ?_ ?_
                 rotate_left
                 ·simp only [putAll, Act.put, zA, zB, zC]
                  rfl
                 refine two_ (i := 0) (j := 4) (Ni := some 3) (Nj := some 7) w12_plain.b8 w12_plain.b9 rfl rfl rfl rfl (two_of HT_.out (by kernel_rfl)) (by decide) (by decide) (fun K hK => ?_) (fun K hK => ?_)
                 ·skip
                  refine Kd.R_lit_step (Kd.int .i8) _ 30 ?hg (N := 3) ?hd (xs := ([] : List Int)) (inner := []) (ok := fun _ => True) (okp := fun _ => True) ?hr ?hp (fun _ hk => hk) trivial (Below.refl _ _) (yN _) (by simp) ?_; (case hd => rfl); (case hg => rfl); (case hr => first | (go_simp; done) | (go_simp; rfl)); (case hp => exact (Reps.none _ _))
                  intro v388 w11 ho12 hb hg_ hnew_
                  clear hg_ hnew_
                  (first | rw [← Ny387.out] at ho12 | (simp only [Int.reduceToNat] at ho12; rw [← Ny387.out] at ho12))
                  have n0_ := zK (Kd.R_elder' (by (with_reducible repeat (first | apply zL | apply zM | apply zN)); exact HO401.out) (Kd.R_base ho12) hb)
                  have n1_ := zK (Kd.R_lower (Kd.R_new' ho12 (Kd.R_lt (by (with_reducible repeat (first | apply zL | apply zM | apply zN)); exact HO401.out))) (yK (by repeat (first | (with_reducible first | exact HB.out | apply zJ | apply zD | apply zE | refine zI ?_ Z2.out | refine zI ?_ Z3.out) | exact HB.out))))
                  have n2_ := zK (zP (g := Z8) (o := .cells #[.slice A0_0 l0_0.length c0_0, .slice A0_1 l0_1.length c0_1, .slice A0_2 l0_2.length c0_2, .int .i64 a0_3, .int .i64 a0_4, .int .i64 a0_5] 36 (0, 0)) (by (with_reducible repeat (first | refine zF ?_ _ | refine zH ?_ | refine zG ?_ _)); exact Z0.out) hb)
                  have n3_ := zK (zP (g := Z9) (o := .cells #[.slice none 0 0, .slice none 0 0, .slice none 0 0, .int .i64 0, .int .i64 0, .int .i64 0] 43 (0, 0)) (by (with_reducible repeat (first | refine zF ?_ _ | refine zH ?_ | refine zG ?_ _)); exact Z1.out) hb)
                  have n4_ := zK (yL (by repeat (first | (with_reducible first | exact HB.out | apply zJ | apply zD | apply zE | refine zI ?_ Z2.out | refine zI ?_ Z3.out) | exact HB.out)) hb)
                  clear HO401 Z0 Z1 HB
                  have HO401 := n0_; have HO389 := n1_; have Z0 := n2_; have Z1 := n3_; have HB := n4_
                  clear n0_ n1_ n2_ n3_ n4_ hb ho12
                  refine hK.out _ _ ⟨(zO Z0.out 0).trans rfl, (zO Z0.out 1).trans rfl, (zO Z0.out 2).trans rfl, (zO Z0.out 3).trans rfl, (zO Z0.out 4).trans rfl, (zO Z0.out 5).trans rfl⟩ (fun hHeld => ?_)
                  clear hK K
                  refine norm_ (a' := ?_) ?_ ?_
                  rotate_left
                  ·show Act.put _ (some 3) _ = _
                   simp only [Act.put, zA, zB, zC, i64_w, i32_w]
                   rfl
                  exact norm_ (by first | (simp only [putAll, Act.put, zA, zB, zC]; done) | (simp only [putAll, Act.put, zA, zB, zC]; rfl)) (hJ0_8 (v388, v400) _ ⟨hHeld, (by (with_reducible repeat (first | apply zL | apply zM | apply zN)); exact yd HO389.out (fun _ hk => hk.2)), (by (with_reducible repeat (first | apply zL | apply zM | apply zN)); exact yd HO401.out (fun _ hk => hk.2)), (by (with_reducible repeat (first | refine zF ?_ _ | refine zH ?_ | refine zG ?_ _)); exact Z0.out), (by (with_reducible repeat (first | refine zF ?_ _ | refine zH ?_ | refine zG ?_ _)); exact Z1.out), (by repeat (first | (with_reducible first | exact HB.out | apply zJ | apply zD | apply zE | refine zI ?_ Z2.out | refine zI ?_ Z3.out) | exact HB.out))⟩)
                 ·skip
                  refine Kd.R_lit_step (Kd.int .i8) _ 30 ?hg (N := 7) ?hd (xs := ([] : List Int)) (inner := []) (ok := fun _ => True) (okp := fun _ => True) ?hr ?hp (fun _ hk => hk) trivial (Below.refl _ _) (yN _) (by simp) ?_; (case hd => rfl); (case hg => rfl); (case hr => first | (go_simp; done) | (go_simp; rfl)); (case hp => exact (Reps.none _ _))
                  intro v394 w11 ho12 hb hg_ hnew_
                  clear hg_ hnew_
                  (first | rw [← Ny393.out] at ho12 | (simp only [Int.reduceToNat] at ho12; rw [← Ny393.out] at ho12))
                  have n0_ := zK (Kd.R_elder' (by (with_reducible repeat (first | apply zL | apply zM | apply zN)); exact HO401.out) (Kd.R_base ho12) hb)
                  have n1_ := zK (Kd.R_lower (Kd.R_new' ho12 (Kd.R_lt (by (with_reducible repeat (first | apply zL | apply zM | apply zN)); exact HO401.out))) (yK (by repeat (first | (with_reducible first | exact HB.out | apply zJ | apply zD | apply zE | refine zI ?_ Z2.out | refine zI ?_ Z3.out) | exact HB.out))))
                  have n2_ := zK (zP (g := Z8) (o := .cells #[.slice A0_0 l0_0.length c0_0, .slice A0_1 l0_1.length c0_1, .slice A0_2 l0_2.length c0_2, .int .i64 a0_3, .int .i64 a0_4, .int .i64 a0_5] 36 (0, 0)) (by (with_reducible repeat (first | refine zF ?_ _ | refine zH ?_ | refine zG ?_ _)); exact Z0.out) hb)
                  have n3_ := zK (zP (g := Z9) (o := .cells #[.slice none 0 0, .slice none 0 0, .slice none 0 0, .int .i64 0, .int .i64 0, .int .i64 0] 43 (0, 0)) (by (with_reducible repeat (first | refine zF ?_ _ | refine zH ?_ | refine zG ?_ _)); exact Z1.out) hb)
                  have n4_ := zK (yL (by repeat (first | (with_reducible first | exact HB.out | apply zJ | apply zD | apply zE | refine zI ?_ Z2.out | refine zI ?_ Z3.out) | exact HB.out)) hb)
                  clear HO401 Z0 Z1 HB
                  have HO401 := n0_; have HO395 := n1_; have Z0 := n2_; have Z1 := n3_; have HB := n4_
                  clear n0_ n1_ n2_ n3_ n4_ hb ho12
                  refine hK.out _ _ ⟨(zO Z0.out 0).trans rfl, (zO Z0.out 1).trans rfl, (zO Z0.out 2).trans rfl, (zO Z0.out 3).trans rfl, (zO Z0.out 4).trans rfl, (zO Z0.out 5).trans rfl⟩ (fun hHeld => ?_)
                  clear hK K
                  refine norm_ (a' := ?_) ?_ ?_
                  rotate_left
                  ·show Act.put _ (some 7) _ = _
                   simp only [Act.put, zA, zB, zC, i64_w, i32_w]
                   rfl
                  exact norm_ (by first | (simp only [putAll, Act.put, zA, zB, zC]; done) | (simp only [putAll, Act.put, zA, zB, zC]; rfl)) (hJ4_8 (v394, v400) _ ⟨hHeld, (by (with_reducible repeat (first | apply zL | apply zM | apply zN)); exact yd HO395.out (fun _ hk => hk.2)), (by (with_reducible repeat (first | apply zL | apply zM | apply zN)); exact yd HO401.out (fun _ hk => hk.2)), (by (with_reducible repeat (first | refine zF ?_ _ | refine zH ?_ | refine zG ?_ _)); exact Z0.out), (by (with_reducible repeat (first | refine zF ?_ _ | refine zH ?_ | refine zG ?_ _)); exact Z1.out), (by repeat (first | (with_reducible first | exact HB.out | apply zJ | apply zD | apply zE | refine zI ?_ Z2.out | refine zI ?_ Z3.out) | exact HB.out))⟩)
               ·skip
                rintro v394 w10 ⟨hS_, h0_, h1_, h2_, h3_⟩
                have n0_ : Aside0 (Kd.R (Kd.int .i8) 30 w10 w.heap.size (fun _ => True) v394 y393) := ⟨h0_⟩
                have n1_ : Aside0 (w10.heap[Z8]? = some (.cells #[.slice A0_0 l0_0.length c0_0, .slice A0_1 l0_1.length c0_1, .slice A0_2 l0_2.length c0_2, .int .i64 a0_3, .int .i64 a0_4, .int .i64 a0_5] 36 (0, 0))) := ⟨h1_⟩
                have n2_ : Aside0 (w10.heap[Z9]? = some (.cells #[.slice none 0 0, .slice none 0 0, .slice none 0 0, .int .i64 0, .int .i64 0, .int .i64 0] 43 (0, 0))) := ⟨h2_⟩
                have n3_ : Aside0 (Below w.heap.size w w10) := ⟨h3_⟩
                clear Z0 Z1 HB h0_ h1_ h2_ h3_
                have HO395 := n0_; have Z0 := n1_; have Z1 := n2_; have HB := n3_
                clear n0_ n1_ n2_ n3_
                have hHeld : w10.cell? ⟨Z8, 0, none⟩ = some (.slice A0_0 l0_0.length c0_0) ∧ w10.cell? ⟨Z8, 1, none⟩ = some (.slice A0_1 l0_1.length c0_1) ∧ w10.cell? ⟨Z8, 2, none⟩ = some (.slice A0_2 l0_2.length c0_2) ∧ w10.cell? ⟨Z8, 3, none⟩ = some (.int .i64 a0_3) ∧ w10.cell? ⟨Z8, 4, none⟩ = some (.int .i64 a0_4) ∧ w10.cell? ⟨Z8, 5, none⟩ = some (.int .i64 a0_5) := hS_
                refine norm_ (a' := ?_) ?_ ?_
                rotate_left
                ·simp only [putAll, Act.put, zA, zB, zC]
                 rfl
                refine two_ (i := 0) (j := 8) (Ni := some 3) (Nj := some 11) w12_plain.b7 w12_plain.b9 rfl rfl rfl rfl (two_of HT_.out (by kernel_rfl)) (by decide) (by decide) (fun K hK => ?_) (fun K hK => ?_)
                ·skip
                 refine Kd.R_lit_step (Kd.int .i8) _ 30 ?hg (N := 3) ?hd (xs := ([] : List Int)) (inner := []) (ok := fun _ => True) (okp := fun _ => True) ?hr ?hp (fun _ hk => hk) trivial (Below.refl _ _) (yN _) (by simp) ?_; (case hd => rfl); (case hg => rfl); (case hr => first | (go_simp; done) | (go_simp; rfl)); (case hp => exact (Reps.none _ _))
                 intro v388 w11 ho12 hb hg_ hnew_
                 clear hg_ hnew_
                 (first | rw [← Ny387.out] at ho12 | (simp only [Int.reduceToNat] at ho12; rw [← Ny387.out] at ho12))
                 have n0_ := zK (Kd.R_elder' (by (with_reducible repeat (first | apply zL | apply zM | apply zN)); exact HO395.out) (Kd.R_base ho12) hb)
                 have n1_ := zK (Kd.R_lower (Kd.R_new' ho12 (Kd.R_lt (by (with_reducible repeat (first | apply zL | apply zM | apply zN)); exact HO395.out))) (yK (by repeat (first | (with_reducible first | exact HB.out | apply zJ | apply zD | apply zE | refine zI ?_ Z2.out | refine zI ?_ Z3.out) | exact HB.out))))
                 have n2_ := zK (zP (g := Z8) (o := .cells #[.slice A0_0 l0_0.length c0_0, .slice A0_1 l0_1.length c0_1, .slice A0_2 l0_2.length c0_2, .int .i64 a0_3, .int .i64 a0_4, .int .i64 a0_5] 36 (0, 0)) (by (with_reducible repeat (first | refine zF ?_ _ | refine zH ?_ | refine zG ?_ _)); exact Z0.out) hb)
                 have n3_ := zK (zP (g := Z9) (o := .cells #[.slice none 0 0, .slice none 0 0, .slice none 0 0, .int .i64 0, .int .i64 0, .int .i64 0] 43 (0, 0)) (by (with_reducible repeat (first | refine zF ?_ _ | refine zH ?_ | refine zG ?_ _)); exact Z1.out) hb)
                 have n4_ := zK (yL (by repeat (first | (with_reducible first | exact HB.out | apply zJ | apply zD | apply zE | refine zI ?_ Z2.out | refine zI ?_ Z3.out) | exact HB.out)) hb)
                 clear HO395 Z0 Z1 HB
                 have HO395 := n0_; have HO389 := n1_; have Z0 := n2_; have Z1 := n3_; have HB := n4_
                 clear n0_ n1_ n2_ n3_ n4_ hb ho12
                 refine hK.out _ _ ⟨(zO Z0.out 0).trans rfl, (zO Z0.out 1).trans rfl, (zO Z0.out 2).trans rfl, (zO Z0.out 3).trans rfl, (zO Z0.out 4).trans rfl, (zO Z0.out 5).trans rfl⟩ (fun hHeld => ?_)
                 clear hK K
                 refine norm_ (a' := ?_) ?_ ?_
                 rotate_left
                 ·show Act.put _ (some 3) _ = _
                  simp only [Act.put, zA, zB, zC, i64_w, i32_w]
                  rfl
                 exact norm_ (by first | (simp only [putAll, Act.put, zA, zB, zC]; done) | (simp only [putAll, Act.put, zA, zB, zC]; rfl)) (hJ0_4 (v388, v394) _ ⟨hHeld, (by (with_reducible repeat (first | apply zL | apply zM | apply zN)); exact yd HO389.out (fun _ hk => hk.2)), (by (with_reducible repeat (first | apply zL | apply zM | apply zN)); exact yd HO395.out (fun _ hk => hk.2)), (by (with_reducible repeat (first | refine zF ?_ _ | refine zH ?_ | refine zG ?_ _)); exact Z0.out), (by (with_reducible repeat (first | refine zF ?_ _ | refine zH ?_ | refine zG ?_ _)); exact Z1.out), (by repeat (first | (with_reducible first | exact HB.out | apply zJ | apply zD | apply zE | refine zI ?_ Z2.out | refine zI ?_ Z3.out) | exact HB.out))⟩)
                ·skip
                 refine Kd.R_lit_step (Kd.int .i8) _ 30 ?hg (N := 11) ?hd (xs := ([] : List Int)) (inner := []) (ok := fun _ => True) (okp := fun _ => True) ?hr ?hp (fun _ hk => hk) trivial (Below.refl _ _) (yN _) (by simp) ?_; (case hd => rfl); (case hg => rfl); (case hr => first | (go_simp; done) | (go_simp; rfl)); (case hp => exact (Reps.none _ _))
                 intro v400 w11 ho12 hb hg_ hnew_
                 clear hg_ hnew_
                 (first | rw [← Ny399.out] at ho12 | (simp only [Int.reduceToNat] at ho12; rw [← Ny399.out] at ho12))
                 have n0_ := zK (Kd.R_elder' (by (with_reducible repeat (first | apply zL | apply zM | apply zN)); exact HO395.out) (Kd.R_base ho12) hb)
                 have n1_ := zK (Kd.R_lower (Kd.R_new' ho12 (Kd.R_lt (by (with_reducible repeat (first | apply zL | apply zM | apply zN)); exact HO395.out))) (yK (by repeat (first | (with_reducible first | exact HB.out | apply zJ | apply zD | apply zE | refine zI ?_ Z2.out | refine zI ?_ Z3.out) | exact HB.out))))
                 have n2_ := zK (zP (g := Z8) (o := .cells #[.slice A0_0 l0_0.length c0_0, .slice A0_1 l0_1.length c0_1, .slice A0_2 l0_2.length c0_2, .int .i64 a0_3, .int .i64 a0_4, .int .i64 a0_5] 36 (0, 0)) (by (with_reducible repeat (first | refine zF ?_ _ | refine zH ?_ | refine zG ?_ _)); exact Z0.out) hb)
                 have n3_ := zK (zP (g := Z9) (o := .cells #[.slice none 0 0, .slice none 0 0, .slice none 0 0, .int .i64 0, .int .i64 0, .int .i64 0] 43 (0, 0)) (by (with_reducible repeat (first | refine zF ?_ _ | refine zH ?_ | refine zG ?_ _)); exact Z1.out) hb)
                 have n4_ := zK (yL (by repeat (first | (with_reducible first | exact HB.out | apply zJ | apply zD | apply zE | refine zI ?_ Z2.out | refine zI ?_ Z3.out) | exact HB.out)) hb)
                 clear HO395 Z0 Z1 HB
                 have HO395 := n0_; have HO401 := n1_; have Z0 := n2_; have Z1 := n3_; have HB := n4_
                 clear n0_ n1_ n2_ n3_ n4_ hb ho12
                 refine hK.out _ _ ⟨(zO Z0.out 0).trans rfl, (zO Z0.out 1).trans rfl, (zO Z0.out 2).trans rfl, (zO Z0.out 3).trans rfl, (zO Z0.out 4).trans rfl, (zO Z0.out 5).trans rfl⟩ (fun hHeld => ?_)
                 clear hK K
                 refine norm_ (a' := ?_) ?_ ?_
                 rotate_left
                 ·show Act.put _ (some 11) _ = _
                  simp only [Act.put, zA, zB, zC, i64_w, i32_w]
                  rfl
                 exact norm_ (by first | (simp only [putAll, Act.put, zA, zB, zC]; done) | (simp only [putAll, Act.put, zA, zB, zC]; rfl)) (hJ4_8 (v394, v400) _ ⟨hHeld, (by (with_reducible repeat (first | apply zL | apply zM | apply zN)); exact yd HO395.out (fun _ hk => hk.2)), (by (with_reducible repeat (first | apply zL | apply zM | apply zN)); exact yd HO401.out (fun _ hk => hk.2)), (by (with_reducible repeat (first | refine zF ?_ _ | refine zH ?_ | refine zG ?_ _)); exact Z0.out), (by (with_reducible repeat (first | refine zF ?_ _ | refine zH ?_ | refine zG ?_ _)); exact Z1.out), (by repeat (first | (with_reducible first | exact HB.out | apply zJ | apply zD | apply zE | refine zI ?_ Z2.out | refine zI ?_ Z3.out) | exact HB.out))⟩)
              ·skip
               rintro v388 w10 ⟨hS_, h0_, h1_, h2_, h3_⟩
               have n0_ : Aside0 (Kd.R (Kd.int .i8) 30 w10 w.heap.size (fun _ => True) v388 y387) := ⟨h0_⟩
               have n1_ : Aside0 (w10.heap[Z8]? = some (.cells #[.slice A0_0 l0_0.length c0_0, .slice A0_1 l0_1.length c0_1, .slice A0_2 l0_2.length c0_2, .int .i64 a0_3, .int .i64 a0_4, .int .i64 a0_5] 36 (0, 0))) := ⟨h1_⟩
               have n2_ : Aside0 (w10.heap[Z9]? = some (.cells #[.slice none 0 0, .slice none 0 0, .slice none 0 0, .int .i64 0, .int .i64 0, .int .i64 0] 43 (0, 0))) := ⟨h2_⟩
               have n3_ : Aside0 (Below w.heap.size w w10) := ⟨h3_⟩
               clear Z0 Z1 HB h0_ h1_ h2_ h3_
               have HO389 := n0_; have Z0 := n1_; have Z1 := n2_; have HB := n3_
               clear n0_ n1_ n2_ n3_
               have hHeld : w10.cell? ⟨Z8, 0, none⟩ = some (.slice A0_0 l0_0.length c0_0) ∧ w10.cell? ⟨Z8, 1, none⟩ = some (.slice A0_1 l0_1.length c0_1) ∧ w10.cell? ⟨Z8, 2, none⟩ = some (.slice A0_2 l0_2.length c0_2) ∧ w10.cell? ⟨Z8, 3, none⟩ = some (.int .i64 a0_3) ∧ w10.cell? ⟨Z8, 4, none⟩ = some (.int .i64 a0_4) ∧ w10.cell? ⟨Z8, 5, none⟩ = some (.int .i64 a0_5) := hS_
               refine norm_ (a' := ?_) ?_ ?_
               rotate_left
               ·simp only [putAll, Act.put, zA, zB, zC]
                rfl
               refine three_ (i := 3) (j := 4) (k := 8) (Ni := some 6) (Nj := some 7) (Nk := some 11) w12_plain.b6 w12_plain.b7 w12_plain.b8 rfl rfl rfl rfl rfl rfl (three_of HT_.out (by kernel_rfl)) (by decide) (by decide) (by decide) (fun K hK => ?_) (fun K hK => ?_) (fun K hK => ?_)
               ·skip
                refine Kd.R_append_rows_step (Kd.int .i8) (w0 := w) w.heap.size (by rfl) (.tmp 3) (.tmp 5) 23 30 (.int .i8 0) 1 rfl Try.underlying23 info30 rfl (by decide) (by omega) v388 y387 l0_0 _ _ _ (fun _ => True) (fun _ => False) rfl rfl ?aO ?aR (fun _ _ h => h) (fun _ h => h.elim) ?aF ?aB ?aS ?aL ?_
                (case aR => repeat (first | exact (yc HR0_0.out HB.out) | (with_reducible refine yS ?_ _) | (with_reducible refine yT ?_ _) | (with_reducible refine yU ?_)))
                (case aB => exact (by repeat (first | (with_reducible first | exact HB.out | apply zJ | apply zD | apply zE | refine zI ?_ Z2.out | refine zI ?_ Z3.out) | exact HB.out)))
                (case aF => exact (fun _ _ => trivial))
                (case aO => exact (by (with_reducible repeat (first | apply zL | apply zM | apply zN)); exact HO389.out))
                (case aS => exact (yK (by repeat (first | (with_reducible first | exact HB.out | apply zJ | apply zD | apply zE | refine zI ?_ Z2.out | refine zI ?_ Z3.out) | exact HB.out))))
                (case aL => have := LMc2.out; omega)
                intro v391 w11 ho hb hg hat
                rw [← Ny390.out] at ho
                have n0_ := zK (blk_grown (g := Z8) (o := .cells #[.slice A0_0 l0_0.length c0_0, .slice A0_1 l0_1.length c0_1, .slice A0_2 l0_2.length c0_2, .int .i64 a0_3, .int .i64 a0_4, .int .i64 a0_5] 36 (0, 0)) (by (with_reducible repeat (first | refine zF ?_ _ | refine zH ?_ | refine zG ?_ _)); exact Z0.out) hg (Kd.R_ne HO389.out Z0.out (by decide)))
                have n1_ := zK (blk_grown (g := Z9) (o := .cells #[.slice none 0 0, .slice none 0 0, .slice none 0 0, .int .i64 0, .int .i64 0, .int .i64 0] 43 (0, 0)) (by (with_reducible repeat (first | refine zF ?_ _ | refine zH ?_ | refine zG ?_ _)); exact Z1.out) hg (Kd.R_ne HO389.out Z1.out (by decide)))
                have n2_ := zK (hb)
                have n3_ := zK (ho)
                clear Z0 Z1 HB HO389
                have Z0 := n0_; have Z1 := n1_; have HB := n2_; have HO392 := n3_
                clear n0_ n1_ n2_ n3_ ho hb hg hat
                refine hK.out _ _ ⟨(zO Z0.out 0).trans rfl, (zO Z0.out 1).trans rfl, (zO Z0.out 2).trans rfl, (zO Z0.out 3).trans rfl, (zO Z0.out 4).trans rfl, (zO Z0.out 5).trans rfl⟩ (fun hHeld => ?_)
                clear hK K
                refine norm_ (a' := ?_) ?_ ?_
                rotate_left
                ·show Act.put _ (some 6) _ = _
                 simp only [Act.put, zA, zB, zC, i64_w, i32_w]
                 rfl
                exact norm_ (by first | (simp only [putAll, Act.put, zA, zB, zC]; done) | (simp only [putAll, Act.put, zA, zB, zC]; rfl)) (hJ0_3 (v388, v391) _ ⟨hHeld, (by (with_reducible repeat (first | apply zL | apply zM | apply zN)); exact HO392.out), (by (with_reducible repeat (first | refine zF ?_ _ | refine zH ?_ | refine zG ?_ _)); exact Z0.out), (by (with_reducible repeat (first | refine zF ?_ _ | refine zH ?_ | refine zG ?_ _)); exact Z1.out), (by repeat (first | (with_reducible first | exact HB.out | apply zJ | apply zD | apply zE | refine zI ?_ Z2.out | refine zI ?_ Z3.out) | exact HB.out))⟩)
               ·skip
                refine Kd.R_lit_step (Kd.int .i8) _ 30 ?hg (N := 7) ?hd (xs := ([] : List Int)) (inner := []) (ok := fun _ => True) (okp := fun _ => True) ?hr ?hp (fun _ hk => hk) trivial (Below.refl _ _) (yN _) (by simp) ?_; (case hd => rfl); (case hg => rfl); (case hr => first | (go_simp; done) | (go_simp; rfl)); (case hp => exact (Reps.none _ _))
                intro v394 w11 ho12 hb hg_ hnew_
                clear hg_ hnew_
                (first | rw [← Ny393.out] at ho12 | (simp only [Int.reduceToNat] at ho12; rw [← Ny393.out] at ho12))
                have n0_ := zK (Kd.R_elder' (by (with_reducible repeat (first | apply zL | apply zM | apply zN)); exact HO389.out) (Kd.R_base ho12) hb)
                have n1_ := zK (Kd.R_lower (Kd.R_new' ho12 (Kd.R_lt (by (with_reducible repeat (first | apply zL | apply zM | apply zN)); exact HO389.out))) (yK (by repeat (first | (with_reducible first | exact HB.out | apply zJ | apply zD | apply zE | refine zI ?_ Z2.out | refine zI ?_ Z3.out) | exact HB.out))))
                have n2_ := zK (zP (g := Z8) (o := .cells #[.slice A0_0 l0_0.length c0_0, .slice A0_1 l0_1.length c0_1, .slice A0_2 l0_2.length c0_2, .int .i64 a0_3, .int .i64 a0_4, .int .i64 a0_5] 36 (0, 0)) (by (with_reducible repeat (first | refine zF ?_ _ | refine zH ?_ | refine zG ?_ _)); exact Z0.out) hb)
                have n3_ := zK (zP (g := Z9) (o := .cells #[.slice none 0 0, .slice none 0 0, .slice none 0 0, .int .i64 0, .int .i64 0, .int .i64 0] 43 (0, 0)) (by (with_reducible repeat (first | refine zF ?_ _ | refine zH ?_ | refine zG ?_ _)); exact Z1.out) hb)
                have n4_ := zK (yL (by repeat (first | (with_reducible first | exact HB.out | apply zJ | apply zD | apply zE | refine zI ?_ Z2.out | refine zI ?_ Z3.out) | exact HB.out)) hb)
                clear HO389 Z0 Z1 HB
                have HO389 := n0_; have HO395 := n1_; have Z0 := n2_; have Z1 := n3_; have HB := n4_
                clear n0_ n1_ n2_ n3_ n4_ hb ho12
                refine hK.out _ _ ⟨(zO Z0.out 0).trans rfl, (zO Z0.out 1).trans rfl, (zO Z0.out 2).trans rfl, (zO Z0.out 3).trans rfl, (zO Z0.out 4).trans rfl, (zO Z0.out 5).trans rfl⟩ (fun hHeld => ?_)
                clear hK K
                refine norm_ (a' := ?_) ?_ ?_
                rotate_left
                ·show Act.put _ (some 7) _ = _
                 simp only [Act.put, zA, zB, zC, i64_w, i32_w]
                 rfl
                exact norm_ (by first | (simp only [putAll, Act.put, zA, zB, zC]; done) | (simp only [putAll, Act.put, zA, zB, zC]; rfl)) (hJ0_4 (v388, v394) _ ⟨hHeld, (by (with_reducible repeat (first | apply zL | apply zM | apply zN)); exact yd HO389.out (fun _ hk => hk.2)), (by (with_reducible repeat (first | apply zL | apply zM | apply zN)); exact yd HO395.out (fun _ hk => hk.2)), (by (with_reducible repeat (first | refine zF ?_ _ | refine zH ?_ | refine zG ?_ _)); exact Z0.out), (by (with_reducible repeat (first | refine zF ?_ _ | refine zH ?_ | refine zG ?_ _)); exact Z1.out), (by repeat (first | (with_reducible first | exact HB.out | apply zJ | apply zD | apply zE | refine zI ?_ Z2.out | refine zI ?_ Z3.out) | exact HB.out))⟩)
               ·skip
                refine Kd.R_lit_step (Kd.int .i8) _ 30 ?hg (N := 11) ?hd (xs := ([] : List Int)) (inner := []) (ok := fun _ => True) (okp := fun _ => True) ?hr ?hp (fun _ hk => hk) trivial (Below.refl _ _) (yN _) (by simp) ?_; (case hd => rfl); (case hg => rfl); (case hr => first | (go_simp; done) | (go_simp; rfl)); (case hp => exact (Reps.none _ _))
                intro v400 w11 ho12 hb hg_ hnew_
                clear hg_ hnew_
                (first | rw [← Ny399.out] at ho12 | (simp only [Int.reduceToNat] at ho12; rw [← Ny399.out] at ho12))
                have n0_ := zK (Kd.R_elder' (by (with_reducible repeat (first | apply zL | apply zM | apply zN)); exact HO389.out) (Kd.R_base ho12) hb)
                have n1_ := zK (Kd.R_lower (Kd.R_new' ho12 (Kd.R_lt (by (with_reducible repeat (first | apply zL | apply zM | apply zN)); exact HO389.out))) (yK (by repeat (first | (with_reducible first | exact HB.out | apply zJ | apply zD | apply zE | refine zI ?_ Z2.out | refine zI ?_ Z3.out) | exact HB.out))))
                have n2_ := zK (zP (g := Z8) (o := .cells #[.slice A0_0 l0_0.length c0_0, .slice A0_1 l0_1.length c0_1, .slice A0_2 l0_2.length c0_2, .int .i64 a0_3, .int .i64 a0_4, .int .i64 a0_5] 36 (0, 0)) (by (with_reducible repeat (first | refine zF ?_ _ | refine zH ?_ | refine zG ?_ _)); exact Z0.out) hb)
                have n3_ := zK (zP (g := Z9) (o := .cells #[.slice none 0 0, .slice none 0 0, .slice none 0 0, .int .i64 0, .int .i64 0, .int .i64 0] 43 (0, 0)) (by (with_reducible repeat (first | refine zF ?_ _ | refine zH ?_ | refine zG ?_ _)); exact Z1.out) hb)
                have n4_ := zK (yL (by repeat (first | (with_reducible first | exact HB.out | apply zJ | apply zD | apply zE | refine zI ?_ Z2.out | refine zI ?_ Z3.out) | exact HB.out)) hb)
                clear HO389 Z0 Z1 HB
                have HO389 := n0_; have HO401 := n1_; have Z0 := n2_; have Z1 := n3_; have HB := n4_
                clear n0_ n1_ n2_ n3_ n4_ hb ho12
                refine hK.out _ _ ⟨(zO Z0.out 0).trans rfl, (zO Z0.out 1).trans rfl, (zO Z0.out 2).trans rfl, (zO Z0.out 3).trans rfl, (zO Z0.out 4).trans rfl, (zO Z0.out 5).trans rfl⟩ (fun hHeld => ?_)
                clear hK K
                refine norm_ (a' := ?_) ?_ ?_
                rotate_left
                ·show Act.put _ (some 11) _ = _
                 simp only [Act.put, zA, zB, zC, i64_w, i32_w]
                 rfl
                exact norm_ (by first | (simp only [putAll, Act.put, zA, zB, zC]; done) | (simp only [putAll, Act.put, zA, zB, zC]; rfl)) (hJ0_8 (v388, v400) _ ⟨hHeld, (by (with_reducible repeat (first | apply zL | apply zM | apply zN)); exact yd HO389.out (fun _ hk => hk.2)), (by (with_reducible repeat (first | apply zL | apply zM | apply zN)); exact yd HO401.out (fun _ hk => hk.2)), (by (with_reducible repeat (first | refine zF ?_ _ | refine zH ?_ | refine zG ?_ _)); exact Z0.out), (by (with_reducible repeat (first | refine zF ?_ _ | refine zH ?_ | refine zG ?_ _)); exact Z1.out), (by repeat (first | (with_reducible first | exact HB.out | apply zJ | apply zD | apply zE | refine zI ?_ Z2.out | refine zI ?_ Z3.out) | exact HB.out))⟩)
             ·skip
              rintro ⟨v394, v400⟩ w12 ⟨hS_, h0_, h1_, h2_, h3_, h4_⟩
              have n0_ : Aside0 (Kd.R (Kd.int .i8) 30 w12 w.heap.size (fun k_ => some k_ ≠ (v400 : Value).ownBlock) v394 y393) := ⟨h0_⟩
              have n1_ : Aside0 (Kd.R (Kd.int .i8) 30 w12 w.heap.size (fun k_ => some k_ ≠ (v394 : Value).ownBlock) v400 y399) := ⟨h1_⟩
              have n2_ : Aside0 (w12.heap[Z8]? = some (.cells #[.slice A0_0 l0_0.length c0_0, .slice A0_1 l0_1.length c0_1, .slice A0_2 l0_2.length c0_2, .int .i64 a0_3, .int .i64 a0_4, .int .i64 a0_5] 36 (0, 0))) := ⟨h2_⟩
              have n3_ : Aside0 (w12.heap[Z9]? = some (.cells #[.slice none 0 0, .slice none 0 0, .slice none 0 0, .int .i64 0, .int .i64 0, .int .i64 0] 43 (0, 0))) := ⟨h3_⟩
              have n4_ : Aside0 (Below w.heap.size w w12) := ⟨h4_⟩
              clear Z0 Z1 HB h0_ h1_ h2_ h3_ h4_
              have HO395 := n0_; have HO401 := n1_; have Z0 := n2_; have Z1 := n3_; have HB := n4_
              clear n0_ n1_ n2_ n3_ n4_
              have hHeld : w12.cell? ⟨Z8, 0, none⟩ = some (.slice A0_0 l0_0.length c0_0) ∧ w12.cell? ⟨Z8, 1, none⟩ = some (.slice A0_1 l0_1.length c0_1) ∧ w12.cell? ⟨Z8, 2, none⟩ = some (.slice A0_2 l0_2.length c0_2) ∧ w12.cell? ⟨Z8, 3, none⟩ = some (.int .i64 a0_3) ∧ w12.cell? ⟨Z8, 4, none⟩ = some (.int .i64 a0_4) ∧ w12.cell? ⟨Z8, 5, none⟩ = some (.int .i64 a0_5) := hS_
              refine norm_ (a' := ?_) ?_ ?_
              rotate_left
              ·simp only [putAll, Act.put, zA, zB, zC]
               rfl
              refine one_ (i := 0) (N := some 3) w12_plain.b5 rfl rfl (one_of HT_.out (by kernel_rfl)) (by decide) (fun K hK => ?_)
              refine Kd.R_lit_step (Kd.int .i8) _ 30 ?hg (N := 3) ?hd (xs := ([] : List Int)) (inner := []) (ok := fun _ => True) (okp := fun _ => True) ?hr ?hp (fun _ hk => hk) trivial (Below.refl _ _) (yN _) (by simp) ?_; (case hd => rfl); (case hg => rfl); (case hr => first | (go_simp; done) | (go_simp; rfl)); (case hp => exact (Reps.none _ _))
              intro v388 w13 ho14 hb hg_ hnew_
              clear hg_ hnew_
              (first | rw [← Ny387.out] at ho14 | (simp only [Int.reduceToNat] at ho14; rw [← Ny387.out] at ho14))
              have n0_ := zK (Kd.R_elder' (by (with_reducible repeat (first | apply zL | apply zM | apply zN)); exact HO395.out) (Kd.R_base ho14) hb)
              have n1_ := zK (Kd.R_elder' (by (with_reducible repeat (first | apply zL | apply zM | apply zN)); exact HO401.out) (Kd.R_base ho14) hb)
              have n2_ := zK (Kd.R_lower (Kd.R_new' (Kd.R_new' ho14 (Kd.R_lt (by (with_reducible repeat (first | apply zL | apply zM | apply zN)); exact HO395.out))) (Kd.R_lt (by (with_reducible repeat (first | apply zL | apply zM | apply zN)); exact HO401.out))) (yK (by repeat (first | (with_reducible first | exact HB.out | apply zJ | apply zD | apply zE | refine zI ?_ Z2.out | refine zI ?_ Z3.out) | exact HB.out))))
              have n3_ := zK (zP (g := Z8) (o := .cells #[.slice A0_0 l0_0.length c0_0, .slice A0_1 l0_1.length c0_1, .slice A0_2 l0_2.length c0_2, .int .i64 a0_3, .int .i64 a0_4, .int .i64 a0_5] 36 (0, 0)) (by (with_reducible repeat (first | refine zF ?_ _ | refine zH ?_ | refine zG ?_ _)); exact Z0.out) hb)
              have n4_ := zK (zP (g := Z9) (o := .cells #[.slice none 0 0, .slice none 0 0, .slice none 0 0, .int .i64 0, .int .i64 0, .int .i64 0] 43 (0, 0)) (by (with_reducible repeat (first | refine zF ?_ _ | refine zH ?_ | refine zG ?_ _)); exact Z1.out) hb)
              have n5_ := zK (yL (by repeat (first | (with_reducible first | exact HB.out | apply zJ | apply zD | apply zE | refine zI ?_ Z2.out | refine zI ?_ Z3.out) | exact HB.out)) hb)
              clear HO395 HO401 Z0 Z1 HB
              have HO395 := n0_; have HO401 := n1_; have HO389 := n2_; have Z0 := n3_; have Z1 := n4_; have HB := n5_
              clear n0_ n1_ n2_ n3_ n4_ n5_ hb ho14
              refine hK.out _ _ ⟨(zO Z0.out 0).trans rfl, (zO Z0.out 1).trans rfl, (zO Z0.out 2).trans rfl, (zO Z0.out 3).trans rfl, (zO Z0.out 4).trans rfl, (zO Z0.out 5).trans rfl⟩ (fun hHeld => ?_)
              clear hK K
              refine norm_ (a' := ?_) ?_ ?_
              rotate_left
              ·show Act.put _ (some 3) _ = _
               simp only [Act.put, zA, zB, zC, i64_w, i32_w]
               rfl
              exact norm_ (by first | (simp only [putAll, Act.put, zA, zB, zC]; done) | (simp only [putAll, Act.put, zA, zB, zC]; rfl)) (hJ0_4_8 (v388, v394, v400) _ ⟨hHeld, (by (with_reducible repeat (first | apply zL | apply zM | apply zN)); exact yd HO389.out (fun _ hk => ⟨hk.1.2, hk.2⟩)), (by (with_reducible repeat (first | apply zL | apply zM | apply zN)); exact yd HO395.out (fun _ hk => ⟨hk.2, hk.1⟩)), (by (with_reducible repeat (first | apply zL | apply zM | apply zN)); exact yd HO401.out (fun _ hk => ⟨hk.2, hk.1⟩)), (by (with_reducible repeat (first | refine zF ?_ _ | refine zH ?_ | refine zG ?_ _)); exact Z0.out), (by (with_reducible repeat (first | refine zF ?_ _ | refine zH ?_ | refine zG ?_ _)); exact Z1.out), (by repeat (first | (with_reducible first | exact HB.out | apply zJ | apply zD | apply zE | refine zI ?_ Z2.out | refine zI ?_ Z3.out) | exact HB.out))⟩)
            ·skip
             rintro ⟨v388, v400⟩ w12 ⟨hS_, h0_, h1_, h2_, h3_, h4_⟩
             have n0_ : Aside0 (Kd.R (Kd.int .i8) 30 w12 w.heap.size (fun k_ => some k_ ≠ (v400 : Value).ownBlock) v388 y387) := ⟨h0_⟩
             have n1_ : Aside0 (Kd.R (Kd.int .i8) 30 w12 w.heap.size (fun k_ => some k_ ≠ (v388 : Value).ownBlock) v400 y399) := ⟨h1_⟩
             have n2_ : Aside0 (w12.heap[Z8]? = some (.cells #[.slice A0_0 l0_0.length c0_0, .slice A0_1 l0_1.length c0_1, .slice A0_2 l0_2.length c0_2, .int .i64 a0_3, .int .i64 a0_4, .int .i64 a0_5] 36 (0, 0))) := ⟨h2_⟩
             have n3_ : Aside0 (w12.heap[Z9]? = some (.cells #[.slice none 0 0, .slice none 0 0, .slice none 0 0, .int .i64 0, .int .i64 0, .int .i64 0] 43 (0, 0))) := ⟨h3_⟩
             have n4_ : Aside0 (Below w.heap.size w w12) := ⟨h4_⟩
             clear Z0 Z1 HB h0_ h1_ h2_ h3_ h4_
             have HO389 := n0_; have HO401 := n1_; have Z0 := n2_; have Z1 := n3_; have HB := n4_
             clear n0_ n1_ n2_ n3_ n4_
             have hHeld : w12.cell? ⟨Z8, 0, none⟩ = some (.slice A0_0 l0_0.length c0_0) ∧ w12.cell? ⟨Z8, 1, none⟩ = some (.slice A0_1 l0_1.length c0_1) ∧ w12.cell? ⟨Z8, 2, none⟩ = some (.slice A0_2 l0_2.length c0_2) ∧ w12.cell? ⟨Z8, 3, none⟩ = some (.int .i64 a0_3) ∧ w12.cell? ⟨Z8, 4, none⟩ = some (.int .i64 a0_4) ∧ w12.cell? ⟨Z8, 5, none⟩ = some (.int .i64 a0_5) := hS_
             refine norm_ (a' := ?_) ?_ ?_
             rotate_left
             ·simp only [putAll, Act.put, zA, zB, zC]
              rfl
             refine two_ (i := 3) (j := 4) (Ni := some 6) (Nj := some 7) w12_plain.b4 w12_plain.b5 rfl rfl rfl rfl (two_of HT_.out (by kernel_rfl)) (by decide) (by decide) (fun K hK => ?_) (fun K hK => ?_)
             ·skip
              refine Kd.R_append_rows_step (Kd.int .i8) (w0 := w) w.heap.size (by rfl) (.tmp 3) (.tmp 5) 23 30 (.int .i8 0) 1 rfl Try.underlying23 info30 rfl (by decide) (by omega) v388 y387 l0_0 _ _ _ (fun k_ => some k_ ≠ (v400 : Value).ownBlock) (fun _ => False) rfl rfl ?aO ?aR (fun _ _ h => h) (fun _ h => h.elim) ?aF ?aB ?aS ?aL ?_
              (case aR => repeat (first | exact (yc HR0_0.out HB.out) | (with_reducible refine yS ?_ _) | (with_reducible refine yT ?_ _) | (with_reducible refine yU ?_)))
              (case aB => exact (by repeat (first | (with_reducible first | exact HB.out | apply zJ | apply zD | apply zE | refine zI ?_ Z2.out | refine zI ?_ Z3.out) | exact HB.out)))
              (case aF => exact (fun k_ hk => Kd.fresh' (Kd.R_lt (by (with_reducible repeat (first | apply zL | apply zM | apply zN)); exact HO401.out)) k_ hk))
              (case aO => exact (by (with_reducible repeat (first | apply zL | apply zM | apply zN)); exact HO389.out))
              (case aS => exact (yK (by repeat (first | (with_reducible first | exact HB.out | apply zJ | apply zD | apply zE | refine zI ?_ Z2.out | refine zI ?_ Z3.out) | exact HB.out))))
              (case aL => have := LMc2.out; omega)
              intro v391 w13 ho hb hg hat
              rw [← Ny390.out] at ho
              have n0_ := zK (blk_grown (g := Z8) (o := .cells #[.slice A0_0 l0_0.length c0_0, .slice A0_1 l0_1.length c0_1, .slice A0_2 l0_2.length c0_2, .int .i64 a0_3, .int .i64 a0_4, .int .i64 a0_5] 36 (0, 0)) (by (with_reducible repeat (first | refine zF ?_ _ | refine zH ?_ | refine zG ?_ _)); exact Z0.out) hg (Kd.R_ne HO389.out Z0.out (by decide)))
              have n1_ := zK (blk_grown (g := Z9) (o := .cells #[.slice none 0 0, .slice none 0 0, .slice none 0 0, .int .i64 0, .int .i64 0, .int .i64 0] 43 (0, 0)) (by (with_reducible repeat (first | refine zF ?_ _ | refine zH ?_ | refine zG ?_ _)); exact Z1.out) hg (Kd.R_ne HO389.out Z1.out (by decide)))
              have n2_ := zK (Kd.R_after (ok := (fun _ => True)) (by (with_reducible repeat (first | apply zL | apply zM | apply zN)); exact yd HO401.out (fun _ hk => ⟨trivial, hk⟩)) hg hat)
              have n3_ := zK (hb)
              have n4_ := zK (ho)
              clear Z0 Z1 HO401 HB HO389
              have Z0 := n0_; have Z1 := n1_; have HO401 := n2_; have HB := n3_; have HO392 := n4_
              clear n0_ n1_ n2_ n3_ n4_ ho hb hg hat
              refine hK.out _ _ ⟨(zO Z0.out 0).trans rfl, (zO Z0.out 1).trans rfl, (zO Z0.out 2).trans rfl, (zO Z0.out 3).trans rfl, (zO Z0.out 4).trans rfl, (zO Z0.out 5).trans rfl⟩ (fun hHeld => ?_)
              clear hK K
              refine norm_ (a' := ?_) ?_ ?_
              rotate_left
              ·show Act.put _ (some 6) _ = _
               simp only [Act.put, zA, zB, zC, i64_w, i32_w]
               rfl
              exact norm_ (by first | (simp only [putAll, Act.put, zA, zB, zC]; done) | (simp only [putAll, Act.put, zA, zB, zC]; rfl)) (hJ0_3_8 (v388, v391, v400) _ ⟨hHeld, (by (with_reducible repeat (first | apply zL | apply zM | apply zN)); exact HO392.out), (by (with_reducible repeat (first | apply zL | apply zM | apply zN)); exact yd HO401.out (fun _ hk => hk.2)), (by (with_reducible repeat (first | refine zF ?_ _ | refine zH ?_ | refine zG ?_ _)); exact Z0.out), (by (with_reducible repeat (first | refine zF ?_ _ | refine zH ?_ | refine zG ?_ _)); exact Z1.out), (by repeat (first | (with_reducible first | exact HB.out | apply zJ | apply zD | apply zE | refine zI ?_ Z2.out | refine zI ?_ Z3.out) | exact HB.out))⟩)
             ·skip
              refine Kd.R_lit_step (Kd.int .i8) _ 30 ?hg (N := 7) ?hd (xs := ([] : List Int)) (inner := []) (ok := fun _ => True) (okp := fun _ => True) ?hr ?hp (fun _ hk => hk) trivial (Below.refl _ _) (yN _) (by simp) ?_; (case hd => rfl); (case hg => rfl); (case hr => first | (go_simp; done) | (go_simp; rfl)); (case hp => exact (Reps.none _ _))
              intro v394 w13 ho14 hb hg_ hnew_
              clear hg_ hnew_
              (first | rw [← Ny393.out] at ho14 | (simp only [Int.reduceToNat] at ho14; rw [← Ny393.out] at ho14))
              have n0_ := zK (Kd.R_elder' (by (with_reducible repeat (first | apply zL | apply zM | apply zN)); exact HO389.out) (Kd.R_base ho14) hb)
              have n1_ := zK (Kd.R_elder' (by (with_reducible repeat (first | apply zL | apply zM | apply zN)); exact HO401.out) (Kd.R_base ho14) hb)
              have n2_ := zK (Kd.R_lower (Kd.R_new' (Kd.R_new' ho14 (Kd.R_lt (by (with_reducible repeat (first | apply zL | apply zM | apply zN)); exact HO389.out))) (Kd.R_lt (by (with_reducible repeat (first | apply zL | apply zM | apply zN)); exact HO401.out))) (yK (by repeat (first | (with_reducible first | exact HB.out | apply zJ | apply zD | apply zE | refine zI ?_ Z2.out | refine zI ?_ Z3.out) | exact HB.out))))
              have n3_ := zK (zP (g := Z8) (o := .cells #[.slice A0_0 l0_0.length c0_0, .slice A0_1 l0_1.length c0_1, .slice A0_2 l0_2.length c0_2, .int .i64 a0_3, .int .i64 a0_4, .int .i64 a0_5] 36 (0, 0)) (by (with_reducible repeat (first | refine zF ?_ _ | refine zH ?_ | refine zG ?_ _)); exact Z0.out) hb)
              have n4_ := zK (zP (g := Z9) (o := .cells #[.slice none 0 0, .slice none 0 0, .slice none 0 0, .int .i64 0, .int .i64 0, .int .i64 0] 43 (0, 0)) (by (with_reducible repeat (first | refine zF ?_ _ | refine zH ?_ | refine zG ?_ _)); exact Z1.out) hb)
              have n5_ := zK (yL (by repeat (first | (with_reducible first | exact HB.out | apply zJ | apply zD | apply zE | refine zI ?_ Z2.out | refine zI ?_ Z3.out) | exact HB.out)) hb)
              clear HO389 HO401 Z0 Z1 HB
              have HO389 := n0_; have HO401 := n1_; have HO395 := n2_; have Z0 := n3_; have Z1 := n4_; have HB := n5_
              clear n0_ n1_ n2_ n3_ n4_ n5_ hb ho14
              refine hK.out _ _ ⟨(zO Z0.out 0).trans rfl, (zO Z0.out 1).trans rfl, (zO Z0.out 2).trans rfl, (zO Z0.out 3).trans rfl, (zO Z0.out 4).trans rfl, (zO Z0.out 5).trans rfl⟩ (fun hHeld => ?_)
              clear hK K
              refine norm_ (a' := ?_) ?_ ?_
              rotate_left
              ·show Act.put _ (some 7) _ = _
               simp only [Act.put, zA, zB, zC, i64_w, i32_w]
               rfl
              exact norm_ (by first | (simp only [putAll, Act.put, zA, zB, zC]; done) | (simp only [putAll, Act.put, zA, zB, zC]; rfl)) (hJ0_4_8 (v388, v394, v400) _ ⟨hHeld, (by (with_reducible repeat (first | apply zL | apply zM | apply zN)); exact yd HO389.out (fun _ hk => ⟨hk.2, hk.1⟩)), (by (with_reducible repeat (first | apply zL | apply zM | apply zN)); exact yd HO395.out (fun _ hk => ⟨hk.1.2, hk.2⟩)), (by (with_reducible repeat (first | apply zL | apply zM | apply zN)); exact HO401.out), (by (with_reducible repeat (first | refine zF ?_ _ | refine zH ?_ | refine zG ?_ _)); exact Z0.out), (by (with_reducible repeat (first | refine zF ?_ _ | refine zH ?_ | refine zG ?_ _)); exact Z1.out), (by repeat (first | (with_reducible first | exact HB.out | apply zJ | apply zD | apply zE | refine zI ?_ Z2.out | refine zI ?_ Z3.out) | exact HB.out))⟩)
           ·skip
            rintro ⟨v388, v394⟩ w12 ⟨hS_, h0_, h1_, h2_, h3_, h4_⟩
            have n0_ : Aside0 (Kd.R (Kd.int .i8) 30 w12 w.heap.size (fun k_ => some k_ ≠ (v394 : Value).ownBlock) v388 y387) := ⟨h0_⟩
            have n1_ : Aside0 (Kd.R (Kd.int .i8) 30 w12 w.heap.size (fun k_ => some k_ ≠ (v388 : Value).ownBlock) v394 y393) := ⟨h1_⟩
            have n2_ : Aside0 (w12.heap[Z8]? = some (.cells #[.slice A0_0 l0_0.length c0_0, .slice A0_1 l0_1.length c0_1, .slice A0_2 l0_2.length c0_2, .int .i64 a0_3, .int .i64 a0_4, .int .i64 a0_5] 36 (0, 0))) := ⟨h2_⟩
            have n3_ : Aside0 (w12.heap[Z9]? = some (.cells #[.slice none 0 0, .slice none 0 0, .slice none 0 0, .int .i64 0, .int .i64 0, .int .i64 0] 43 (0, 0))) := ⟨h3_⟩
            have n4_ : Aside0 (Below w.heap.size w w12) := ⟨h4_⟩
            clear Z0 Z1 HB h0_ h1_ h2_ h3_ h4_
            have HO389 := n0_; have HO395 := n1_; have Z0 := n2_; have Z1 := n3_; have HB := n4_
            clear n0_ n1_ n2_ n3_ n4_
            have hHeld : w12.cell? ⟨Z8, 0, none⟩ = some (.slice A0_0 l0_0.length c0_0) ∧ w12.cell? ⟨Z8, 1, none⟩ = some (.slice A0_1 l0_1.length c0_1) ∧ w12.cell? ⟨Z8, 2, none⟩ = some (.slice A0_2 l0_2.length c0_2) ∧ w12.cell? ⟨Z8, 3, none⟩ = some (.int .i64 a0_3) ∧ w12.cell? ⟨Z8, 4, none⟩ = some (.int .i64 a0_4) ∧ w12.cell? ⟨Z8, 5, none⟩ = some (.int .i64 a0_5) := hS_
            refine norm_ (a' := ?_) ?_ ?_
            rotate_left
            ·simp only [putAll, Act.put, zA, zB, zC]
             rfl
            refine two_ (i := 3) (j := 8) (Ni := some 6) (Nj := some 11) w12_plain.b3 w12_plain.b5 rfl rfl rfl rfl (two_of HT_.out (by kernel_rfl)) (by decide) (by decide) (fun K hK => ?_) (fun K hK => ?_)
            ·skip
             refine Kd.R_append_rows_step (Kd.int .i8) (w0 := w) w.heap.size (by rfl) (.tmp 3) (.tmp 5) 23 30 (.int .i8 0) 1 rfl Try.underlying23 info30 rfl (by decide) (by omega) v388 y387 l0_0 _ _ _ (fun k_ => some k_ ≠ (v394 : Value).ownBlock) (fun _ => False) rfl rfl ?aO ?aR (fun _ _ h => h) (fun _ h => h.elim) ?aF ?aB ?aS ?aL ?_
             (case aR => repeat (first | exact (yc HR0_0.out HB.out) | (with_reducible refine yS ?_ _) | (with_reducible refine yT ?_ _) | (with_reducible refine yU ?_)))
             (case aB => exact (by repeat (first | (with_reducible first | exact HB.out | apply zJ | apply zD | apply zE | refine zI ?_ Z2.out | refine zI ?_ Z3.out) | exact HB.out)))
             (case aF => exact (fun k_ hk => Kd.fresh' (Kd.R_lt (by (with_reducible repeat (first | apply zL | apply zM | apply zN)); exact HO395.out)) k_ hk))
             (case aO => exact (by (with_reducible repeat (first | apply zL | apply zM | apply zN)); exact HO389.out))
             (case aS => exact (yK (by repeat (first | (with_reducible first | exact HB.out | apply zJ | apply zD | apply zE | refine zI ?_ Z2.out | refine zI ?_ Z3.out) | exact HB.out))))
             (case aL => have := LMc2.out; omega)
             intro v391 w13 ho hb hg hat
             rw [← Ny390.out] at ho
             have n0_ := zK (blk_grown (g := Z8) (o := .cells #[.slice A0_0 l0_0.length c0_0, .slice A0_1 l0_1.length c0_1, .slice A0_2 l0_2.length c0_2, .int .i64 a0_3, .int .i64 a0_4, .int .i64 a0_5] 36 (0, 0)) (by (with_reducible repeat (first | refine zF ?_ _ | refine zH ?_ | refine zG ?_ _)); exact Z0.out) hg (Kd.R_ne HO389.out Z0.out (by decide)))
             have n1_ := zK (blk_grown (g := Z9) (o := .cells #[.slice none 0 0, .slice none 0 0, .slice none 0 0, .int .i64 0, .int .i64 0, .int .i64 0] 43 (0, 0)) (by (with_reducible repeat (first | refine zF ?_ _ | refine zH ?_ | refine zG ?_ _)); exact Z1.out) hg (Kd.R_ne HO389.out Z1.out (by decide)))
             have n2_ := zK (Kd.R_after (ok := (fun _ => True)) (by (with_reducible repeat (first | apply zL | apply zM | apply zN)); exact yd HO395.out (fun _ hk => ⟨trivial, hk⟩)) hg hat)
             have n3_ := zK (hb)
             have n4_ := zK (ho)
             clear Z0 Z1 HO395 HB HO389
             have Z0 := n0_; have Z1 := n1_; have HO395 := n2_; have HB := n3_; have HO392 := n4_
             clear n0_ n1_ n2_ n3_ n4_ ho hb hg hat
             refine hK.out _ _ ⟨(zO Z0.out 0).trans rfl, (zO Z0.out 1).trans rfl, (zO Z0.out 2).trans rfl, (zO Z0.out 3).trans rfl, (zO Z0.out 4).trans rfl, (zO Z0.out 5).trans rfl⟩ (fun hHeld => ?_)
             clear hK K
             refine norm_ (a' := ?_) ?_ ?_
             rotate_left
             ·show Act.put _ (some 6) _ = _
              simp only [Act.put, zA, zB, zC, i64_w, i32_w]
              rfl
             exact norm_ (by first | (simp only [putAll, Act.put, zA, zB, zC]; done) | (simp only [putAll, Act.put, zA, zB, zC]; rfl)) (hJ0_3_4 (v388, v391, v394) _ ⟨hHeld, (by (with_reducible repeat (first | apply zL | apply zM | apply zN)); exact HO392.out), (by (with_reducible repeat (first | apply zL | apply zM | apply zN)); exact yd HO395.out (fun _ hk => hk.2)), (by (with_reducible repeat (first | refine zF ?_ _ | refine zH ?_ | refine zG ?_ _)); exact Z0.out), (by (with_reducible repeat (first | refine zF ?_ _ | refine zH ?_ | refine zG ?_ _)); exact Z1.out), (by repeat (first | (with_reducible first | exact HB.out | apply zJ | apply zD | apply zE | refine zI ?_ Z2.out | refine zI ?_ Z3.out) | exact HB.out))⟩)
            ·skip
             refine Kd.R_lit_step (Kd.int .i8) _ 30 ?hg (N := 11) ?hd (xs := ([] : List Int)) (inner := []) (ok := fun _ => True) (okp := fun _ => True) ?hr ?hp (fun _ hk => hk) trivial (Below.refl _ _) (yN _) (by simp) ?_; (case hd => rfl); (case hg => rfl); (case hr => first | (go_simp; done) | (go_simp; rfl)); (case hp => exact (Reps.none _ _))
             intro v400 w13 ho14 hb hg_ hnew_
             clear hg_ hnew_
             (first | rw [← Ny399.out] at ho14 | (simp only [Int.reduceToNat] at ho14; rw [← Ny399.out] at ho14))
             have n0_ := zK (Kd.R_elder' (by (with_reducible repeat (first | apply zL | apply zM | apply zN)); exact HO389.out) (Kd.R_base ho14) hb)
             have n1_ := zK (Kd.R_elder' (by (with_reducible repeat (first | apply zL | apply zM | apply zN)); exact HO395.out) (Kd.R_base ho14) hb)
             have n2_ := zK (Kd.R_lower (Kd.R_new' (Kd.R_new' ho14 (Kd.R_lt (by (with_reducible repeat (first | apply zL | apply zM | apply zN)); exact HO389.out))) (Kd.R_lt (by (with_reducible repeat (first | apply zL | apply zM | apply zN)); exact HO395.out))) (yK (by repeat (first | (with_reducible first | exact HB.out | apply zJ | apply zD | apply zE | refine zI ?_ Z2.out | refine zI ?_ Z3.out) | exact HB.out))))
             have n3_ := zK (zP (g := Z8) (o := .cells #[.slice A0_0 l0_0.length c0_0, .slice A0_1 l0_1.length c0_1, .slice A0_2 l0_2.length c0_2, .int .i64 a0_3, .int .i64 a0_4, .int .i64 a0_5] 36 (0, 0)) (by (with_reducible repeat (first | refine zF ?_ _ | refine zH ?_ | refine zG ?_ _)); exact Z0.out) hb)
             have n4_ := zK (zP (g := Z9) (o := .cells #[.slice none 0 0, .slice none 0 0, .slice none 0 0, .int .i64 0, .int .i64 0, .int .i64 0] 43 (0, 0)) (by (with_reducible repeat (first | refine zF ?_ _ | refine zH ?_ | refine zG ?_ _)); exact Z1.out) hb)
             have n5_ := zK (yL (by repeat (first | (with_reducible first | exact HB.out | apply zJ | apply zD | apply zE | refine zI ?_ Z2.out | refine zI ?_ Z3.out) | exact HB.out)) hb)
             clear HO389 HO395 Z0 Z1 HB
             have HO389 := n0_; have HO395 := n1_; have HO401 := n2_; have Z0 := n3_; have Z1 := n4_; have HB := n5_
             clear n0_ n1_ n2_ n3_ n4_ n5_ hb ho14
             refine hK.out _ _ ⟨(zO Z0.out 0).trans rfl, (zO Z0.out 1).trans rfl, (zO Z0.out 2).trans rfl, (zO Z0.out 3).trans rfl, (zO Z0.out 4).trans rfl, (zO Z0.out 5).trans rfl⟩ (fun hHeld => ?_)
             clear hK K
             refine norm_ (a' := ?_) ?_ ?_
             rotate_left
             ·show Act.put _ (some 11) _ = _
              simp only [Act.put, zA, zB, zC, i64_w, i32_w]
              rfl
             exact norm_ (by first | (simp only [putAll, Act.put, zA, zB, zC]; done) | (simp only [putAll, Act.put, zA, zB, zC]; rfl)) (hJ0_4_8 (v388, v394, v400) _ ⟨hHeld, (by (with_reducible repeat (first | apply zL | apply zM | apply zN)); exact HO389.out), (by (with_reducible repeat (first | apply zL | apply zM | apply zN)); exact HO395.out), (by (with_reducible repeat (first | apply zL | apply zM | apply zN)); exact yd HO401.out (fun _ hk => ⟨hk.1.2, hk.2⟩)), (by (with_reducible repeat (first | refine zF ?_ _ | refine zH ?_ | refine zG ?_ _)); exact Z0.out), (by (with_reducible repeat (first | refine zF ?_ _ | refine zH ?_ | refine zG ?_ _)); exact Z1.out), (by repeat (first | (with_reducible first | exact HB.out | apply zJ | apply zD | apply zE | refine zI ?_ Z2.out | refine zI ?_ Z3.out) | exact HB.out))⟩)
          ·skip
           rintro ⟨v388, v391⟩ w11 ⟨hS_, h0_, h1_, h2_, h3_⟩
           have n0_ : Aside0 (Kd.R (Kd.int .i8) 30 w11 w.heap.size (fun _ => True) v391 y390) := ⟨h0_⟩
           have n1_ : Aside0 (w11.heap[Z8]? = some (.cells #[.slice A0_0 l0_0.length c0_0, .slice A0_1 l0_1.length c0_1, .slice A0_2 l0_2.length c0_2, .int .i64 a0_3, .int .i64 a0_4, .int .i64 a0_5] 36 (0, 0))) := ⟨h1_⟩
           have n2_ : Aside0 (w11.heap[Z9]? = some (.cells #[.slice none 0 0, .slice none 0 0, .slice none 0 0, .int .i64 0, .int .i64 0, .int .i64 0] 43 (0, 0))) := ⟨h2_⟩
           have n3_ : Aside0 (Below w.heap.size w w11) := ⟨h3_⟩
           clear Z0 Z1 HB h0_ h1_ h2_ h3_
           have HO392 := n0_; have Z0 := n1_; have Z1 := n2_; have HB := n3_
           clear n0_ n1_ n2_ n3_
           have hHeld : w11.cell? ⟨Z8, 0, none⟩ = some (.slice A0_0 l0_0.length c0_0) ∧ w11.cell? ⟨Z8, 1, none⟩ = some (.slice A0_1 l0_1.length c0_1) ∧ w11.cell? ⟨Z8, 2, none⟩ = some (.slice A0_2 l0_2.length c0_2) ∧ w11.cell? ⟨Z8, 3, none⟩ = some (.int .i64 a0_3) ∧ w11.cell? ⟨Z8, 4, none⟩ = some (.int .i64 a0_4) ∧ w11.cell? ⟨Z8, 5, none⟩ = some (.int .i64 a0_5) := hS_
           refine norm_ (a' := ?_) ?_ ?_
           rotate_left
           ·simp only [putAll, Act.put, zA, zB, zC]
            rfl
           refine two_ (i := 4) (j := 8) (Ni := some 7) (Nj := some 11) w12_plain.b3 w12_plain.b4 rfl rfl rfl rfl (two_of HT_.out (by kernel_rfl)) (by decide) (by decide) (fun K hK => ?_) (fun K hK => ?_)
           ·skip
            refine Kd.R_lit_step (Kd.int .i8) _ 30 ?hg (N := 7) ?hd (xs := ([] : List Int)) (inner := []) (ok := fun _ => True) (okp := fun _ => True) ?hr ?hp (fun _ hk => hk) trivial (Below.refl _ _) (yN _) (by simp) ?_; (case hd => rfl); (case hg => rfl); (case hr => first | (go_simp; done) | (go_simp; rfl)); (case hp => exact (Reps.none _ _))
            intro v394 w12 ho13 hb hg_ hnew_
            clear hg_ hnew_
            (first | rw [← Ny393.out] at ho13 | (simp only [Int.reduceToNat] at ho13; rw [← Ny393.out] at ho13))
            have n0_ := zK (Kd.R_elder' (by (with_reducible repeat (first | apply zL | apply zM | apply zN)); exact HO392.out) (Kd.R_base ho13) hb)
            have n1_ := zK (Kd.R_lower (Kd.R_new' ho13 (Kd.R_lt (by (with_reducible repeat (first | apply zL | apply zM | apply zN)); exact HO392.out))) (yK (by repeat (first | (with_reducible first | exact HB.out | apply zJ | apply zD | apply zE | refine zI ?_ Z2.out | refine zI ?_ Z3.out) | exact HB.out))))
            have n2_ := zK (zP (g := Z8) (o := .cells #[.slice A0_0 l0_0.length c0_0, .slice A0_1 l0_1.length c0_1, .slice A0_2 l0_2.length c0_2, .int .i64 a0_3, .int .i64 a0_4, .int .i64 a0_5] 36 (0, 0)) (by (with_reducible repeat (first | refine zF ?_ _ | refine zH ?_ | refine zG ?_ _)); exact Z0.out) hb)
            have n3_ := zK (zP (g := Z9) (o := .cells #[.slice none 0 0, .slice none 0 0, .slice none 0 0, .int .i64 0, .int .i64 0, .int .i64 0] 43 (0, 0)) (by (with_reducible repeat (first | refine zF ?_ _ | refine zH ?_ | refine zG ?_ _)); exact Z1.out) hb)
            have n4_ := zK (yL (by repeat (first | (with_reducible first | exact HB.out | apply zJ | apply zD | apply zE | refine zI ?_ Z2.out | refine zI ?_ Z3.out) | exact HB.out)) hb)
            clear HO392 Z0 Z1 HB
            have HO392 := n0_; have HO395 := n1_; have Z0 := n2_; have Z1 := n3_; have HB := n4_
            clear n0_ n1_ n2_ n3_ n4_ hb ho13
            refine hK.out _ _ ⟨(zO Z0.out 0).trans rfl, (zO Z0.out 1).trans rfl, (zO Z0.out 2).trans rfl, (zO Z0.out 3).trans rfl, (zO Z0.out 4).trans rfl, (zO Z0.out 5).trans rfl⟩ (fun hHeld => ?_)
            clear hK K
            refine norm_ (a' := ?_) ?_ ?_
            rotate_left
            ·show Act.put _ (some 7) _ = _
             simp only [Act.put, zA, zB, zC, i64_w, i32_w]
             rfl
            exact norm_ (by first | (simp only [putAll, Act.put, zA, zB, zC]; done) | (simp only [putAll, Act.put, zA, zB, zC]; rfl)) (hJ0_3_4 (v388, v391, v394) _ ⟨hHeld, (by (with_reducible repeat (first | apply zL | apply zM | apply zN)); exact yd HO392.out (fun _ hk => hk.2)), (by (with_reducible repeat (first | apply zL | apply zM | apply zN)); exact yd HO395.out (fun _ hk => hk.2)), (by (with_reducible repeat (first | refine zF ?_ _ | refine zH ?_ | refine zG ?_ _)); exact Z0.out), (by (with_reducible repeat (first | refine zF ?_ _ | refine zH ?_ | refine zG ?_ _)); exact Z1.out), (by repeat (first | (with_reducible first | exact HB.out | apply zJ | apply zD | apply zE | refine zI ?_ Z2.out | refine zI ?_ Z3.out) | exact HB.out))⟩)
           ·skip
            refine Kd.R_lit_step (Kd.int .i8) _ 30 ?hg (N := 11) ?hd (xs := ([] : List Int)) (inner := []) (ok := fun _ => True) (okp := fun _ => True) ?hr ?hp (fun _ hk => hk) trivial (Below.refl _ _) (yN _) (by simp) ?_; (case hd => rfl); (case hg => rfl); (case hr => first | (go_simp; done) | (go_simp; rfl)); (case hp => exact (Reps.none _ _))
            intro v400 w12 ho13 hb hg_ hnew_
            clear hg_ hnew_
            (first | rw [← Ny399.out] at ho13 | (simp only [Int.reduceToNat] at ho13; rw [← Ny399.out] at ho13))
            have n0_ := zK (Kd.R_elder' (by (with_reducible repeat (first | apply zL | apply zM | apply zN)); exact HO392.out) (Kd.R_base ho13) hb)
            have n1_ := zK (Kd.R_lower (Kd.R_new' ho13 (Kd.R_lt (by (with_reducible repeat (first | apply zL | apply zM | apply zN)); exact HO392.out))) (yK (by repeat (first | (with_reducible first | exact HB.out | apply zJ | apply zD | apply zE | refine zI ?_ Z2.out | refine zI ?_ Z3.out) | exact HB.out))))
            have n2_ := zK (zP (g := Z8) (o := .cells #[.slice A0_0 l0_0.length c0_0, .slice A0_1 l0_1.length c0_1, .slice A0_2 l0_2.length c0_2, .int .i64 a0_3, .int .i64 a0_4, .int .i64 a0_5] 36 (0, 0)) (by (with_reducible repeat (first | refine zF ?_ _ | refine zH ?_ | refine zG ?_ _)); exact Z0.out) hb)
            have n3_ := zK (zP (g := Z9) (o := .cells #[.slice none 0 0, .slice none 0 0, .slice none 0 0, .int .i64 0, .int .i64 0, .int .i64 0] 43 (0, 0)) (by (with_reducible repeat (first | refine zF ?_ _ | refine zH ?_ | refine zG ?_ _)); exact Z1.out) hb)
            have n4_ := zK (yL (by repeat (first | (with_reducible first | exact HB.out | apply zJ | apply zD | apply zE | refine zI ?_ Z2.out | refine zI ?_ Z3.out) | exact HB.out)) hb)
            clear HO392 Z0 Z1 HB
            have HO392 := n0_; have HO401 := n1_; have Z0 := n2_; have Z1 := n3_; have HB := n4_
            clear n0_ n1_ n2_ n3_ n4_ hb ho13
            refine hK.out _ _ ⟨(zO Z0.out 0).trans rfl, (zO Z0.out 1).trans rfl, (zO Z0.out 2).trans rfl, (zO Z0.out 3).trans rfl, (zO Z0.out 4).trans rfl, (zO Z0.out 5).trans rfl⟩ (fun hHeld => ?_)
            clear hK K
            refine norm_ (a' := ?_) ?_ ?_
            rotate_left
            ·show Act.put _ (some 11) _ = _
             simp only [Act.put, zA, zB, zC, i64_w, i32_w]
             rfl
            exact norm_ (by first | (simp only [putAll, Act.put, zA, zB, zC]; done) | (simp only [putAll, Act.put, zA, zB, zC]; rfl)) (hJ0_3_8 (v388, v391, v400) _ ⟨hHeld, (by (with_reducible repeat (first | apply zL | apply zM | apply zN)); exact yd HO392.out (fun _ hk => hk.2)), (by (with_reducible repeat (first | apply zL | apply zM | apply zN)); exact yd HO401.out (fun _ hk => hk.2)), (by (with_reducible repeat (first | refine zF ?_ _ | refine zH ?_ | refine zG ?_ _)); exact Z0.out), (by (with_reducible repeat (first | refine zF ?_ _ | refine zH ?_ | refine zG ?_ _)); exact Z1.out), (by repeat (first | (with_reducible first | exact HB.out | apply zJ | apply zD | apply zE | refine zI ?_ Z2.out | refine zI ?_ Z3.out) | exact HB.out))⟩)
         ·skip
          rintro ⟨v388, v394, v400⟩ w14 ⟨hS_, h0_, h1_, h2_, h3_, h4_, h5_⟩
          have n0_ : Aside0 (Kd.R (Kd.int .i8) 30 w14 w.heap.size (fun k_ => some k_ ≠ (v394 : Value).ownBlock ∧ some k_ ≠ (v400 : Value).ownBlock) v388 y387) := ⟨h0_⟩
          have n1_ : Aside0 (Kd.R (Kd.int .i8) 30 w14 w.heap.size (fun k_ => some k_ ≠ (v388 : Value).ownBlock ∧ some k_ ≠ (v400 : Value).ownBlock) v394 y393) := ⟨h1_⟩
          have n2_ : Aside0 (Kd.R (Kd.int .i8) 30 w14 w.heap.size (fun k_ => some k_ ≠ (v388 : Value).ownBlock ∧ some k_ ≠ (v394 : Value).ownBlock) v400 y399) := ⟨h2_⟩
          have n3_ : Aside0 (w14.heap[Z8]? = some (.cells #[.slice A0_0 l0_0.length c0_0, .slice A0_1 l0_1.length c0_1, .slice A0_2 l0_2.length c0_2, .int .i64 a0_3, .int .i64 a0_4, .int .i64 a0_5] 36 (0, 0))) := ⟨h3_⟩
          have n4_ : Aside0 (w14.heap[Z9]? = some (.cells #[.slice none 0 0, .slice none 0 0, .slice none 0 0, .int .i64 0, .int .i64 0, .int .i64 0] 43 (0, 0))) := ⟨h4_⟩
          have n5_ : Aside0 (Below w.heap.size w w14) := ⟨h5_⟩
          clear Z0 Z1 HB h0_ h1_ h2_ h3_ h4_ h5_
          have HO389 := n0_; have HO395 := n1_; have HO401 := n2_; have Z0 := n3_; have Z1 := n4_; have HB := n5_
          clear n0_ n1_ n2_ n3_ n4_ n5_
          have hHeld : w14.cell? ⟨Z8, 0, none⟩ = some (.slice A0_0 l0_0.length c0_0) ∧ w14.cell? ⟨Z8, 1, none⟩ = some (.slice A0_1 l0_1.length c0_1) ∧ w14.cell? ⟨Z8, 2, none⟩ = some (.slice A0_2 l0_2.length c0_2) ∧ w14.cell? ⟨Z8, 3, none⟩ = some (.int .i64 a0_3) ∧ w14.cell? ⟨Z8, 4, none⟩ = some (.int .i64 a0_4) ∧ w14.cell? ⟨Z8, 5, none⟩ = some (.int .i64 a0_5) := hS_
          refine norm_ (a' := ?_) ?_ ?_
          rotate_left
          ·simp only [putAll, Act.put, zA, zB, zC]
           rfl
          refine one_ (i := 3) (N := some 6) w12_plain.b2 rfl rfl (one_of HT_.out (by kernel_rfl)) (by decide) (fun K hK => ?_)
          refine Kd.R_append_rows_step (Kd.int .i8) (w0 := w) w.heap.size (by rfl) (.tmp 3) (.tmp 5) 23 30 (.int .i8 0) 1 rfl Try.underlying23 info30 rfl (by decide) (by omega) v388 y387 l0_0 _ _ _ (fun k_ => some k_ ≠ (v394 : Value).ownBlock ∧ some k_ ≠ (v400 : Value).ownBlock) (fun _ => False) rfl rfl ?aO ?aR (fun _ _ h => h) (fun _ h => h.elim) ?aF ?aB ?aS ?aL ?_
          (case aR => repeat (first | exact (yc HR0_0.out HB.out) | (with_reducible refine yS ?_ _) | (with_reducible refine yT ?_ _) | (with_reducible refine yU ?_)))
          (case aB => exact (by repeat (first | (with_reducible first | exact HB.out | apply zJ | apply zD | apply zE | refine zI ?_ Z2.out | refine zI ?_ Z3.out) | exact HB.out)))
          (case aF => exact (fun k_ hk => ⟨Kd.fresh' (Kd.R_lt (by (with_reducible repeat (first | apply zL | apply zM | apply zN)); exact HO395.out)) k_ hk, Kd.fresh' (Kd.R_lt (by (with_reducible repeat (first | apply zL | apply zM | apply zN)); exact HO401.out)) k_ hk⟩))
          (case aO => exact (by (with_reducible repeat (first | apply zL | apply zM | apply zN)); exact HO389.out))
          (case aS => exact (yK (by repeat (first | (with_reducible first | exact HB.out | apply zJ | apply zD | apply zE | refine zI ?_ Z2.out | refine zI ?_ Z3.out) | exact HB.out))))
          (case aL => have := LMc2.out; omega)
          intro v391 w15 ho hb hg hat
          rw [← Ny390.out] at ho
          have n0_ := zK (blk_grown (g := Z8) (o := .cells #[.slice A0_0 l0_0.length c0_0, .slice A0_1 l0_1.length c0_1, .slice A0_2 l0_2.length c0_2, .int .i64 a0_3, .int .i64 a0_4, .int .i64 a0_5] 36 (0, 0)) (by (with_reducible repeat (first | refine zF ?_ _ | refine zH ?_ | refine zG ?_ _)); exact Z0.out) hg (Kd.R_ne HO389.out Z0.out (by decide)))
          have n1_ := zK (blk_grown (g := Z9) (o := .cells #[.slice none 0 0, .slice none 0 0, .slice none 0 0, .int .i64 0, .int .i64 0, .int .i64 0] 43 (0, 0)) (by (with_reducible repeat (first | refine zF ?_ _ | refine zH ?_ | refine zG ?_ _)); exact Z1.out) hg (Kd.R_ne HO389.out Z1.out (by decide)))
          have n2_ := zK (Kd.R_after (ok := (fun k_ => some k_ ≠ (v400 : Value).ownBlock)) (by (with_reducible repeat (first | apply zL | apply zM | apply zN)); exact yd HO395.out (fun _ hk => ⟨hk.2, hk.1⟩)) hg hat)
          have n3_ := zK (Kd.R_after (ok := (fun k_ => some k_ ≠ (v394 : Value).ownBlock)) (by (with_reducible repeat (first | apply zL | apply zM | apply zN)); exact yd HO401.out (fun _ hk => ⟨hk.2, hk.1⟩)) hg hat)
          have n4_ := zK (hb)
          have n5_ := zK (ho)
          clear Z0 Z1 HO395 HO401 HB HO389
          have Z0 := n0_; have Z1 := n1_; have HO395 := n2_; have HO401 := n3_; have HB := n4_; have HO392 := n5_
          clear n0_ n1_ n2_ n3_ n4_ n5_ ho hb hg hat
          refine hK.out _ _ ⟨(zO Z0.out 0).trans rfl, (zO Z0.out 1).trans rfl, (zO Z0.out 2).trans rfl, (zO Z0.out 3).trans rfl, (zO Z0.out 4).trans rfl, (zO Z0.out 5).trans rfl⟩ (fun hHeld => ?_)
          clear hK K
          refine norm_ (a' := ?_) ?_ ?_
          rotate_left
          ·show Act.put _ (some 6) _ = _
           simp only [Act.put, zA, zB, zC, i64_w, i32_w]
           rfl
          exact norm_ (by first | (simp only [putAll, Act.put, zA, zB, zC]; done) | (simp only [putAll, Act.put, zA, zB, zC]; rfl)) (hJ0_3_4_8 (v388, v391, v394, v400) _ ⟨hHeld, (by (with_reducible repeat (first | apply zL | apply zM | apply zN)); exact HO392.out), (by (with_reducible repeat (first | apply zL | apply zM | apply zN)); exact yd HO395.out (fun _ hk => ⟨hk.2, hk.1⟩)), (by (with_reducible repeat (first | apply zL | apply zM | apply zN)); exact yd HO401.out (fun _ hk => ⟨hk.2, hk.1⟩)), (by (with_reducible repeat (first | refine zF ?_ _ | refine zH ?_ | refine zG ?_ _)); exact Z0.out), (by (with_reducible repeat (first | refine zF ?_ _ | refine zH ?_ | refine zG ?_ _)); exact Z1.out), (by repeat (first | (with_reducible first | exact HB.out | apply zJ | apply zD | apply zE | refine zI ?_ Z2.out | refine zI ?_ Z3.out) | exact HB.out))⟩)
        ·skip
         rintro ⟨v388, v391, v400⟩ w13 ⟨hS_, h0_, h1_, h2_, h3_, h4_⟩
         have n0_ : Aside0 (Kd.R (Kd.int .i8) 30 w13 w.heap.size (fun k_ => some k_ ≠ (v400 : Value).ownBlock) v391 y390) := ⟨h0_⟩
         have n1_ : Aside0 (Kd.R (Kd.int .i8) 30 w13 w.heap.size (fun k_ => some k_ ≠ (v391 : Value).ownBlock) v400 y399) := ⟨h1_⟩
         have n2_ : Aside0 (w13.heap[Z8]? = some (.cells #[.slice A0_0 l0_0.length c0_0, .slice A0_1 l0_1.length c0_1, .slice A0_2 l0_2.length c0_2, .int .i64 a0_3, .int .i64 a0_4, .int .i64 a0_5] 36 (0, 0))) := ⟨h2_⟩
         have n3_ : Aside0 (w13.heap[Z9]? = some (.cells #[.slice none 0 0, .slice none 0 0, .slice none 0 0, .int .i64 0, .int .i64 0, .int .i64 0] 43 (0, 0))) := ⟨h3_⟩
         have n4_ : Aside0 (Below w.heap.size w w13) := ⟨h4_⟩
         clear Z0 Z1 HB h0_ h1_ h2_ h3_ h4_
         have HO392 := n0_; have HO401 := n1_; have Z0 := n2_; have Z1 := n3_; have HB := n4_
         clear n0_ n1_ n2_ n3_ n4_
         have hHeld : w13.cell? ⟨Z8, 0, none⟩ = some (.slice A0_0 l0_0.length c0_0) ∧ w13.cell? ⟨Z8, 1, none⟩ = some (.slice A0_1 l0_1.length c0_1) ∧ w13.cell? ⟨Z8, 2, none⟩ = some (.slice A0_2 l0_2.length c0_2) ∧ w13.cell? ⟨Z8, 3, none⟩ = some (.int .i64 a0_3) ∧ w13.cell? ⟨Z8, 4, none⟩ = some (.int .i64 a0_4) ∧ w13.cell? ⟨Z8, 5, none⟩ = some (.int .i64 a0_5) := hS_
         refine norm_ (a' := ?_) ?_ ?_
         rotate_left
         ·simp only [putAll, Act.put, zA, zB, zC]
          rfl
         refine one_ (i := 4) (N := some 7) w12_plain.b2 rfl rfl (one_of HT_.out (by kernel_rfl)) (by decide) (fun K hK => ?_)
         refine Kd.R_lit_step (Kd.int .i8) _ 30 ?hg (N := 7) ?hd (xs := ([] : List Int)) (inner := []) (ok := fun _ => True) (okp := fun _ => True) ?hr ?hp (fun _ hk => hk) trivial (Below.refl _ _) (yN _) (by simp) ?_; (case hd => rfl); (case hg => rfl); (case hr => first | (go_simp; done) | (go_simp; rfl)); (case hp => exact (Reps.none _ _))
         intro v394 w14 ho15 hb hg_ hnew_
         clear hg_ hnew_
         (first | rw [← Ny393.out] at ho15 | (simp only [Int.reduceToNat] at ho15; rw [← Ny393.out] at ho15))
         have n0_ := zK (Kd.R_elder' (by (with_reducible repeat (first | apply zL | apply zM | apply zN)); exact HO392.out) (Kd.R_base ho15) hb)
         have n1_ := zK (Kd.R_elder' (by (with_reducible repeat (first | apply zL | apply zM | apply zN)); exact HO401.out) (Kd.R_base ho15) hb)
         have n2_ := zK (Kd.R_lower (Kd.R_new' (Kd.R_new' ho15 (Kd.R_lt (by (with_reducible repeat (first | apply zL | apply zM | apply zN)); exact HO392.out))) (Kd.R_lt (by (with_reducible repeat (first | apply zL | apply zM | apply zN)); exact HO401.out))) (yK (by repeat (first | (with_reducible first | exact HB.out | apply zJ | apply zD | apply zE | refine zI ?_ Z2.out | refine zI ?_ Z3.out) | exact HB.out))))
         have n3_ := zK (zP (g := Z8) (o := .cells #[.slice A0_0 l0_0.length c0_0, .slice A0_1 l0_1.length c0_1, .slice A0_2 l0_2.length c0_2, .int .i64 a0_3, .int .i64 a0_4, .int .i64 a0_5] 36 (0, 0)) (by (with_reducible repeat (first | refine zF ?_ _ | refine zH ?_ | refine zG ?_ _)); exact Z0.out) hb)
         have n4_ := zK (zP (g := Z9) (o := .cells #[.slice none 0 0, .slice none 0 0, .slice none 0 0, .int .i64 0, .int .i64 0, .int .i64 0] 43 (0, 0)) (by (with_reducible repeat (first | refine zF ?_ _ | refine zH ?_ | refine zG ?_ _)); exact Z1.out) hb)
         have n5_ := zK (yL (by repeat (first | (with_reducible first | exact HB.out | apply zJ | apply zD | apply zE | refine zI ?_ Z2.out | refine zI ?_ Z3.out) | exact HB.out)) hb)
         clear HO392 HO401 Z0 Z1 HB
         have HO392 := n0_; have HO401 := n1_; have HO395 := n2_; have Z0 := n3_; have Z1 := n4_; have HB := n5_
         clear n0_ n1_ n2_ n3_ n4_ n5_ hb ho15
         refine hK.out _ _ ⟨(zO Z0.out 0).trans rfl, (zO Z0.out 1).trans rfl, (zO Z0.out 2).trans rfl, (zO Z0.out 3).trans rfl, (zO Z0.out 4).trans rfl, (zO Z0.out 5).trans rfl⟩ (fun hHeld => ?_)
         clear hK K
         refine norm_ (a' := ?_) ?_ ?_
         rotate_left
         ·show Act.put _ (some 7) _ = _
          simp only [Act.put, zA, zB, zC, i64_w, i32_w]
          rfl
         exact norm_ (by first | (simp only [putAll, Act.put, zA, zB, zC]; done) | (simp only [putAll, Act.put, zA, zB, zC]; rfl)) (hJ0_3_4_8 (v388, v391, v394, v400) _ ⟨hHeld, (by (with_reducible repeat (first | apply zL | apply zM | apply zN)); exact yd HO392.out (fun _ hk => ⟨hk.2, hk.1⟩)), (by (with_reducible repeat (first | apply zL | apply zM | apply zN)); exact yd HO395.out (fun _ hk => ⟨hk.1.2, hk.2⟩)), (by (with_reducible repeat (first | apply zL | apply zM | apply zN)); exact HO401.out), (by (with_reducible repeat (first | refine zF ?_ _ | refine zH ?_ | refine zG ?_ _)); exact Z0.out), (by (with_reducible repeat (first | refine zF ?_ _ | refine zH ?_ | refine zG ?_ _)); exact Z1.out), (by repeat (first | (with_reducible first | exact HB.out | apply zJ | apply zD | apply zE | refine zI ?_ Z2.out | refine zI ?_ Z3.out) | exact HB.out))⟩)
       ·skip
        rintro ⟨v388, v391, v394⟩ w13 ⟨hS_, h0_, h1_, h2_, h3_, h4_⟩
        have n0_ : Aside0 (Kd.R (Kd.int .i8) 30 w13 w.heap.size (fun k_ => some k_ ≠ (v394 : Value).ownBlock) v391 y390) := ⟨h0_⟩
        have n1_ : Aside0 (Kd.R (Kd.int .i8) 30 w13 w.heap.size (fun k_ => some k_ ≠ (v391 : Value).ownBlock) v394 y393) := ⟨h1_⟩
        have n2_ : Aside0 (w13.heap[Z8]? = some (.cells #[.slice A0_0 l0_0.length c0_0, .slice A0_1 l0_1.length c0_1, .slice A0_2 l0_2.length c0_2, .int .i64 a0_3, .int .i64 a0_4, .int .i64 a0_5] 36 (0, 0))) := ⟨h2_⟩
        have n3_ : Aside0 (w13.heap[Z9]? = some (.cells #[.slice none 0 0, .slice none 0 0, .slice none 0 0, .int .i64 0, .int .i64 0, .int .i64 0] 43 (0, 0))) := ⟨h3_⟩
        have n4_ : Aside0 (Below w.heap.size w w13) := ⟨h4_⟩
        clear Z0 Z1 HB h0_ h1_ h2_ h3_ h4_
        have HO392 := n0_; have HO395 := n1_; have Z0 := n2_; have Z1 := n3_; have HB := n4_
        clear n0_ n1_ n2_ n3_ n4_
        have hHeld : w13.cell? ⟨Z8, 0, none⟩ = some (.slice A0_0 l0_0.length c0_0) ∧ w13.cell? ⟨Z8, 1, none⟩ = some (.slice A0_1 l0_1.length c0_1) ∧ w13.cell? ⟨Z8, 2, none⟩ = some (.slice A0_2 l0_2.length c0_2) ∧ w13.cell? ⟨Z8, 3, none⟩ = some (.int .i64 a0_3) ∧ w13.cell? ⟨Z8, 4, none⟩ = some (.int .i64 a0_4) ∧ w13.cell? ⟨Z8, 5, none⟩ = some (.int .i64 a0_5) := hS_
        refine norm_ (a' := ?_) ?_ ?_
        rotate_left
        ·simp only [putAll, Act.put, zA, zB, zC]
         rfl
        refine two_ (i := 7) (j := 8) (Ni := some 10) (Nj := some 11) w12_plain.b1 w12_plain.b2 rfl rfl rfl rfl (two_of HT_.out (by kernel_rfl)) (by decide) (by decide) (fun K hK => ?_) (fun K hK => ?_)
        ·skip
         refine Kd.R_append_rows_step (Kd.int .i8) (w0 := w) w.heap.size (by rfl) (.tmp 7) (.tmp 9) 23 30 (.int .i8 0) 1 rfl Try.underlying23 info30 rfl (by decide) (by omega) v394 y393 l0_1 _ _ _ (fun k_ => some k_ ≠ (v391 : Value).ownBlock) (fun _ => False) rfl rfl ?aO ?aR (fun _ _ h => h) (fun _ h => h.elim) ?aF ?aB ?aS ?aL ?_
         (case aR => repeat (first | exact (yc HR0_1.out HB.out) | (with_reducible refine yS ?_ _) | (with_reducible refine yT ?_ _) | (with_reducible refine yU ?_)))
         (case aB => exact (by repeat (first | (with_reducible first | exact HB.out | apply zJ | apply zD | apply zE | refine zI ?_ Z2.out | refine zI ?_ Z3.out) | exact HB.out)))
         (case aF => exact (fun k_ hk => Kd.fresh' (Kd.R_lt (by (with_reducible repeat (first | apply zL | apply zM | apply zN)); exact HO392.out)) k_ hk))
         (case aO => exact (by (with_reducible repeat (first | apply zL | apply zM | apply zN)); exact HO395.out))
         (case aS => exact (yK (by repeat (first | (with_reducible first | exact HB.out | apply zJ | apply zD | apply zE | refine zI ?_ Z2.out | refine zI ?_ Z3.out) | exact HB.out))))
         (case aL => have := LMc3.out; omega)
         intro v397 w14 ho hb hg hat
         rw [← Ny396.out] at ho
         have n0_ := zK (blk_grown (g := Z8) (o := .cells #[.slice A0_0 l0_0.length c0_0, .slice A0_1 l0_1.length c0_1, .slice A0_2 l0_2.length c0_2, .int .i64 a0_3, .int .i64 a0_4, .int .i64 a0_5] 36 (0, 0)) (by (with_reducible repeat (first | refine zF ?_ _ | refine zH ?_ | refine zG ?_ _)); exact Z0.out) hg (Kd.R_ne HO395.out Z0.out (by decide)))
         have n1_ := zK (blk_grown (g := Z9) (o := .cells #[.slice none 0 0, .slice none 0 0, .slice none 0 0, .int .i64 0, .int .i64 0, .int .i64 0] 43 (0, 0)) (by (with_reducible repeat (first | refine zF ?_ _ | refine zH ?_ | refine zG ?_ _)); exact Z1.out) hg (Kd.R_ne HO395.out Z1.out (by decide)))
         have n2_ := zK (Kd.R_after (ok := (fun _ => True)) (by (with_reducible repeat (first | apply zL | apply zM | apply zN)); exact yd HO392.out (fun _ hk => ⟨trivial, hk⟩)) hg hat)
         have n3_ := zK (hb)
         have n4_ := zK (ho)
         clear Z0 Z1 HO392 HB HO395
         have Z0 := n0_; have Z1 := n1_; have HO392 := n2_; have HB := n3_; have HO398 := n4_
         clear n0_ n1_ n2_ n3_ n4_ ho hb hg hat
         refine hK.out _ _ ⟨(zO Z0.out 0).trans rfl, (zO Z0.out 1).trans rfl, (zO Z0.out 2).trans rfl, (zO Z0.out 3).trans rfl, (zO Z0.out 4).trans rfl, (zO Z0.out 5).trans rfl⟩ (fun hHeld => ?_)
         clear hK K
         refine norm_ (a' := ?_) ?_ ?_
         rotate_left
         ·show Act.put _ (some 10) _ = _
          simp only [Act.put, zA, zB, zC, i64_w, i32_w]
          rfl
         exact norm_ (by first | (simp only [putAll, Act.put, zA, zB, zC]; done) | (simp only [putAll, Act.put, zA, zB, zC]; rfl)) (hJ0_3_4_7 (v388, v391, v394, v397) _ ⟨hHeld, (by (with_reducible repeat (first | apply zL | apply zM | apply zN)); exact yd HO392.out (fun _ hk => hk.2)), (by (with_reducible repeat (first | apply zL | apply zM | apply zN)); exact HO398.out), (by (with_reducible repeat (first | refine zF ?_ _ | refine zH ?_ | refine zG ?_ _)); exact Z0.out), (by (with_reducible repeat (first | refine zF ?_ _ | refine zH ?_ | refine zG ?_ _)); exact Z1.out), (by repeat (first | (with_reducible first | exact HB.out | apply zJ | apply zD | apply zE | refine zI ?_ Z2.out | refine zI ?_ Z3.out) | exact HB.out))⟩)
        ·skip
         refine Kd.R_lit_step (Kd.int .i8) _ 30 ?hg (N := 11) ?hd (xs := ([] : List Int)) (inner := []) (ok := fun _ => True) (okp := fun _ => True) ?hr ?hp (fun _ hk => hk) trivial (Below.refl _ _) (yN _) (by simp) ?_; (case hd => rfl); (case hg => rfl); (case hr => first | (go_simp; done) | (go_simp; rfl)); (case hp => exact (Reps.none _ _))
         intro v400 w14 ho15 hb hg_ hnew_
         clear hg_ hnew_
         (first | rw [← Ny399.out] at ho15 | (simp only [Int.reduceToNat] at ho15; rw [← Ny399.out] at ho15))
         have n0_ := zK (Kd.R_elder' (by (with_reducible repeat (first | apply zL | apply zM | apply zN)); exact HO392.out) (Kd.R_base ho15) hb)
         have n1_ := zK (Kd.R_elder' (by (with_reducible repeat (first | apply zL | apply zM | apply zN)); exact HO395.out) (Kd.R_base ho15) hb)
         have n2_ := zK (Kd.R_lower (Kd.R_new' (Kd.R_new' ho15 (Kd.R_lt (by (with_reducible repeat (first | apply zL | apply zM | apply zN)); exact HO392.out))) (Kd.R_lt (by (with_reducible repeat (first | apply zL | apply zM | apply zN)); exact HO395.out))) (yK (by repeat (first | (with_reducible first | exact HB.out | apply zJ | apply zD | apply zE | refine zI ?_ Z2.out | refine zI ?_ Z3.out) | exact HB.out))))
         have n3_ := zK (zP (g := Z8) (o := .cells #[.slice A0_0 l0_0.length c0_0, .slice A0_1 l0_1.length c0_1, .slice A0_2 l0_2.length c0_2, .int .i64 a0_3, .int .i64 a0_4, .int .i64 a0_5] 36 (0, 0)) (by (with_reducible repeat (first | refine zF ?_ _ | refine zH ?_ | refine zG ?_ _)); exact Z0.out) hb)
         have n4_ := zK (zP (g := Z9) (o := .cells #[.slice none 0 0, .slice none 0 0, .slice none 0 0, .int .i64 0, .int .i64 0, .int .i64 0] 43 (0, 0)) (by (with_reducible repeat (first | refine zF ?_ _ | refine zH ?_ | refine zG ?_ _)); exact Z1.out) hb)
         have n5_ := zK (yL (by repeat (first | (with_reducible first | exact HB.out | apply zJ | apply zD | apply zE | refine zI ?_ Z2.out | refine zI ?_ Z3.out) | exact HB.out)) hb)
         clear HO392 HO395 Z0 Z1 HB
         have HO392 := n0_; have HO395 := n1_; have HO401 := n2_; have Z0 := n3_; have Z1 := n4_; have HB := n5_
         clear n0_ n1_ n2_ n3_ n4_ n5_ hb ho15
         refine hK.out _ _ ⟨(zO Z0.out 0).trans rfl, (zO Z0.out 1).trans rfl, (zO Z0.out 2).trans rfl, (zO Z0.out 3).trans rfl, (zO Z0.out 4).trans rfl, (zO Z0.out 5).trans rfl⟩ (fun hHeld => ?_)
         clear hK K
         refine norm_ (a' := ?_) ?_ ?_
         rotate_left
         ·show Act.put _ (some 11) _ = _
          simp only [Act.put, zA, zB, zC, i64_w, i32_w]
          rfl
         exact norm_ (by first | (simp only [putAll, Act.put, zA, zB, zC]; done) | (simp only [putAll, Act.put, zA, zB, zC]; rfl)) (hJ0_3_4_8 (v388, v391, v394, v400) _ ⟨hHeld, (by (with_reducible repeat (first | apply zL | apply zM | apply zN)); exact HO392.out), (by (with_reducible repeat (first | apply zL | apply zM | apply zN)); exact HO395.out), (by (with_reducible repeat (first | apply zL | apply zM | apply zN)); exact yd HO401.out (fun _ hk => ⟨hk.1.2, hk.2⟩)), (by (with_reducible repeat (first | refine zF ?_ _ | refine zH ?_ | refine zG ?_ _)); exact Z0.out), (by (with_reducible repeat (first | refine zF ?_ _ | refine zH ?_ | refine zG ?_ _)); exact Z1.out), (by repeat (first | (with_reducible first | exact HB.out | apply zJ | apply zD | apply zE | refine zI ?_ Z2.out | refine zI ?_ Z3.out) | exact HB.out))⟩)
      ·skip
       rintro ⟨v388, v391, v394, v400⟩ w15 ⟨hS_, h0_, h1_, h2_, h3_, h4_, h5_⟩
       have n0_ : Aside0 (Kd.R (Kd.int .i8) 30 w15 w.heap.size (fun k_ => some k_ ≠ (v394 : Value).ownBlock ∧ some k_ ≠ (v400 : Value).ownBlock) v391 y390) := ⟨h0_⟩
       have n1_ : Aside0 (Kd.R (Kd.int .i8) 30 w15 w.heap.size (fun k_ => some k_ ≠ (v391 : Value).ownBlock ∧ some k_ ≠ (v400 : Value).ownBlock) v394 y393) := ⟨h1_⟩
       have n2_ : Aside0 (Kd.R (Kd.int .i8) 30 w15 w.heap.size (fun k_ => some k_ ≠ (v391 : Value).ownBlock ∧ some k_ ≠ (v394 : Value).ownBlock) v400 y399) := ⟨h2_⟩
       have n3_ : Aside0 (w15.heap[Z8]? = some (.cells #[.slice A0_0 l0_0.length c0_0, .slice A0_1 l0_1.length c0_1, .slice A0_2 l0_2.length c0_2, .int .i64 a0_3, .int .i64 a0_4, .int .i64 a0_5] 36 (0, 0))) := ⟨h3_⟩
       have n4_ : Aside0 (w15.heap[Z9]? = some (.cells #[.slice none 0 0, .slice none 0 0, .slice none 0 0, .int .i64 0, .int .i64 0, .int .i64 0] 43 (0, 0))) := ⟨h4_⟩
       have n5_ : Aside0 (Below w.heap.size w w15) := ⟨h5_⟩
       clear Z0 Z1 HB h0_ h1_ h2_ h3_ h4_ h5_
       have HO392 := n0_; have HO395 := n1_; have HO401 := n2_; have Z0 := n3_; have Z1 := n4_; have HB := n5_
       clear n0_ n1_ n2_ n3_ n4_ n5_
       have hHeld : w15.cell? ⟨Z8, 0, none⟩ = some (.slice A0_0 l0_0.length c0_0) ∧ w15.cell? ⟨Z8, 1, none⟩ = some (.slice A0_1 l0_1.length c0_1) ∧ w15.cell? ⟨Z8, 2, none⟩ = some (.slice A0_2 l0_2.length c0_2) ∧ w15.cell? ⟨Z8, 3, none⟩ = some (.int .i64 a0_3) ∧ w15.cell? ⟨Z8, 4, none⟩ = some (.int .i64 a0_4) ∧ w15.cell? ⟨Z8, 5, none⟩ = some (.int .i64 a0_5) := hS_
       refine norm_ (a' := ?_) ?_ ?_
       rotate_left
       ·simp only [putAll, Act.put, zA, zB, zC]
        rfl
       refine one_ (i := 7) (N := some 10) w12_plain.b0 rfl rfl (one_of HT_.out (by kernel_rfl)) (by decide) (fun K hK => ?_)
       refine Kd.R_append_rows_step (Kd.int .i8) (w0 := w) w.heap.size (by rfl) (.tmp 7) (.tmp 9) 23 30 (.int .i8 0) 1 rfl Try.underlying23 info30 rfl (by decide) (by omega) v394 y393 l0_1 _ _ _ (fun k_ => some k_ ≠ (v391 : Value).ownBlock ∧ some k_ ≠ (v400 : Value).ownBlock) (fun _ => False) rfl rfl ?aO ?aR (fun _ _ h => h) (fun _ h => h.elim) ?aF ?aB ?aS ?aL ?_
       (case aR => repeat (first | exact (yc HR0_1.out HB.out) | (with_reducible refine yS ?_ _) | (with_reducible refine yT ?_ _) | (with_reducible refine yU ?_)))
       (case aB => exact (by repeat (first | (with_reducible first | exact HB.out | apply zJ | apply zD | apply zE | refine zI ?_ Z2.out | refine zI ?_ Z3.out) | exact HB.out)))
       (case aF => exact (fun k_ hk => ⟨Kd.fresh' (Kd.R_lt (by (with_reducible repeat (first | apply zL | apply zM | apply zN)); exact HO392.out)) k_ hk, Kd.fresh' (Kd.R_lt (by (with_reducible repeat (first | apply zL | apply zM | apply zN)); exact HO401.out)) k_ hk⟩))
       (case aO => exact (by (with_reducible repeat (first | apply zL | apply zM | apply zN)); exact HO395.out))
       (case aS => exact (yK (by repeat (first | (with_reducible first | exact HB.out | apply zJ | apply zD | apply zE | refine zI ?_ Z2.out | refine zI ?_ Z3.out) | exact HB.out))))
       (case aL => have := LMc3.out; omega)
       intro v397 w16 ho hb hg hat
       rw [← Ny396.out] at ho
       have n0_ := zK (blk_grown (g := Z8) (o := .cells #[.slice A0_0 l0_0.length c0_0, .slice A0_1 l0_1.length c0_1, .slice A0_2 l0_2.length c0_2, .int .i64 a0_3, .int .i64 a0_4, .int .i64 a0_5] 36 (0, 0)) (by (with_reducible repeat (first | refine zF ?_ _ | refine zH ?_ | refine zG ?_ _)); exact Z0.out) hg (Kd.R_ne HO395.out Z0.out (by decide)))
       have n1_ := zK (blk_grown (g := Z9) (o := .cells #[.slice none 0 0, .slice none 0 0, .slice none 0 0, .int .i64 0, .int .i64 0, .int .i64 0] 43 (0, 0)) (by (with_reducible repeat (first | refine zF ?_ _ | refine zH ?_ | refine zG ?_ _)); exact Z1.out) hg (Kd.R_ne HO395.out Z1.out (by decide)))
       have n2_ := zK (Kd.R_after (ok := (fun k_ => some k_ ≠ (v400 : Value).ownBlock)) (by (with_reducible repeat (first | apply zL | apply zM | apply zN)); exact yd HO392.out (fun _ hk => ⟨hk.2, hk.1⟩)) hg hat)
       have n3_ := zK (Kd.R_after (ok := (fun k_ => some k_ ≠ (v391 : Value).ownBlock)) (by (with_reducible repeat (first | apply zL | apply zM | apply zN)); exact HO401.out) hg hat)
       have n4_ := zK (hb)
       have n5_ := zK (ho)
       clear Z0 Z1 HO392 HO401 HB HO395
       have Z0 := n0_; have Z1 := n1_; have HO392 := n2_; have HO401 := n3_; have HB := n4_; have HO398 := n5_
       clear n0_ n1_ n2_ n3_ n4_ n5_ ho hb hg hat
       refine hK.out _ _ ⟨(zO Z0.out 0).trans rfl, (zO Z0.out 1).trans rfl, (zO Z0.out 2).trans rfl, (zO Z0.out 3).trans rfl, (zO Z0.out 4).trans rfl, (zO Z0.out 5).trans rfl⟩ (fun hHeld => ?_)
       clear hK K
       refine norm_ (a' := ?_) ?_ ?_
       rotate_left
       ·show Act.put _ (some 10) _ = _
        simp only [Act.put, zA, zB, zC, i64_w, i32_w]
        rfl
       exact norm_ (by first | (simp only [putAll, Act.put, zA, zB, zC]; done) | (simp only [putAll, Act.put, zA, zB, zC]; rfl)) (hJ0_3_4_7_8 (v388, v391, v394, v397, v400) _ ⟨hHeld, (by (with_reducible repeat (first | apply zL | apply zM | apply zN)); exact yd HO392.out (fun _ hk => ⟨hk.2, hk.1⟩)), (by (with_reducible repeat (first | apply zL | apply zM | apply zN)); exact HO398.out), (by (with_reducible repeat (first | apply zL | apply zM | apply zN)); exact HO401.out), (by (with_reducible repeat (first | refine zF ?_ _ | refine zH ?_ | refine zG ?_ _)); exact Z0.out), (by (with_reducible repeat (first | refine zF ?_ _ | refine zH ?_ | refine zG ?_ _)); exact Z1.out), (by repeat (first | (with_reducible first | exact HB.out | apply zJ | apply zD | apply zE | refine zI ?_ Z2.out | refine zI ?_ Z3.out) | exact HB.out))⟩)
     ·skip
      rintro ⟨v388, v391, v394, v397⟩ w14 ⟨hS_, h0_, h1_, h2_, h3_, h4_⟩
      have n0_ : Aside0 (Kd.R (Kd.int .i8) 30 w14 w.heap.size (fun k_ => some k_ ≠ (v397 : Value).ownBlock) v391 y390) := ⟨h0_⟩
      have n1_ : Aside0 (Kd.R (Kd.int .i8) 30 w14 w.heap.size (fun k_ => some k_ ≠ (v391 : Value).ownBlock) v397 y396) := ⟨h1_⟩
      have n2_ : Aside0 (w14.heap[Z8]? = some (.cells #[.slice A0_0 l0_0.length c0_0, .slice A0_1 l0_1.length c0_1, .slice A0_2 l0_2.length c0_2, .int .i64 a0_3, .int .i64 a0_4, .int .i64 a0_5] 36 (0, 0))) := ⟨h2_⟩
      have n3_ : Aside0 (w14.heap[Z9]? = some (.cells #[.slice none 0 0, .slice none 0 0, .slice none 0 0, .int .i64 0, .int .i64 0, .int .i64 0] 43 (0, 0))) := ⟨h3_⟩
      have n4_ : Aside0 (Below w.heap.size w w14) := ⟨h4_⟩
      clear Z0 Z1 HB h0_ h1_ h2_ h3_ h4_
      have HO392 := n0_; have HO398 := n1_; have Z0 := n2_; have Z1 := n3_; have HB := n4_
      clear n0_ n1_ n2_ n3_ n4_
      have hHeld : w14.cell? ⟨Z8, 0, none⟩ = some (.slice A0_0 l0_0.length c0_0) ∧ w14.cell? ⟨Z8, 1, none⟩ = some (.slice A0_1 l0_1.length c0_1) ∧ w14.cell? ⟨Z8, 2, none⟩ = some (.slice A0_2 l0_2.length c0_2) ∧ w14.cell? ⟨Z8, 3, none⟩ = some (.int .i64 a0_3) ∧ w14.cell? ⟨Z8, 4, none⟩ = some (.int .i64 a0_4) ∧ w14.cell? ⟨Z8, 5, none⟩ = some (.int .i64 a0_5) := hS_
      refine norm_ (a' := ?_) ?_ ?_
      rotate_left
      ·simp only [putAll, Act.put, zA, zB, zC]
       rfl
      refine one_ (i := 8) (N := some 11) w12_plain.b0 rfl rfl (one_of HT_.out (by kernel_rfl)) (by decide) (fun K hK => ?_)
      refine Kd.R_lit_step (Kd.int .i8) _ 30 ?hg (N := 11) ?hd (xs := ([] : List Int)) (inner := []) (ok := fun _ => True) (okp := fun _ => True) ?hr ?hp (fun _ hk => hk) trivial (Below.refl _ _) (yN _) (by simp) ?_; (case hd => rfl); (case hg => rfl); (case hr => first | (go_simp; done) | (go_simp; rfl)); (case hp => exact (Reps.none _ _))
      intro v400 w15 ho16 hb hg_ hnew_
      clear hg_ hnew_
      (first | rw [← Ny399.out] at ho16 | (simp only [Int.reduceToNat] at ho16; rw [← Ny399.out] at ho16))
      have n0_ := zK (Kd.R_elder' (by (with_reducible repeat (first | apply zL | apply zM | apply zN)); exact HO392.out) (Kd.R_base ho16) hb)
      have n1_ := zK (Kd.R_elder' (by (with_reducible repeat (first | apply zL | apply zM | apply zN)); exact HO398.out) (Kd.R_base ho16) hb)
      have n2_ := zK (Kd.R_lower (Kd.R_new' (Kd.R_new' ho16 (Kd.R_lt (by (with_reducible repeat (first | apply zL | apply zM | apply zN)); exact HO392.out))) (Kd.R_lt (by (with_reducible repeat (first | apply zL | apply zM | apply zN)); exact HO398.out))) (yK (by repeat (first | (with_reducible first | exact HB.out | apply zJ | apply zD | apply zE | refine zI ?_ Z2.out | refine zI ?_ Z3.out) | exact HB.out))))
      have n3_ := zK (zP (g := Z8) (o := .cells #[.slice A0_0 l0_0.length c0_0, .slice A0_1 l0_1.length c0_1, .slice A0_2 l0_2.length c0_2, .int .i64 a0_3, .int .i64 a0_4, .int .i64 a0_5] 36 (0, 0)) (by (with_reducible repeat (first | refine zF ?_ _ | refine zH ?_ | refine zG ?_ _)); exact Z0.out) hb)
      have n4_ := zK (zP (g := Z9) (o := .cells #[.slice none 0 0, .slice none 0 0, .slice none 0 0, .int .i64 0, .int .i64 0, .int .i64 0] 43 (0, 0)) (by (with_reducible repeat (first | refine zF ?_ _ | refine zH ?_ | refine zG ?_ _)); exact Z1.out) hb)
      have n5_ := zK (yL (by repeat (first | (with_reducible first | exact HB.out | apply zJ | apply zD | apply zE | refine zI ?_ Z2.out | refine zI ?_ Z3.out) | exact HB.out)) hb)
      clear HO392 HO398 Z0 Z1 HB
      have HO392 := n0_; have HO398 := n1_; have HO401 := n2_; have Z0 := n3_; have Z1 := n4_; have HB := n5_
      clear n0_ n1_ n2_ n3_ n4_ n5_ hb ho16
      refine hK.out _ _ ⟨(zO Z0.out 0).trans rfl, (zO Z0.out 1).trans rfl, (zO Z0.out 2).trans rfl, (zO Z0.out 3).trans rfl, (zO Z0.out 4).trans rfl, (zO Z0.out 5).trans rfl⟩ (fun hHeld => ?_)
      clear hK K
      refine norm_ (a' := ?_) ?_ ?_
      rotate_left
      ·show Act.put _ (some 11) _ = _
       simp only [Act.put, zA, zB, zC, i64_w, i32_w]
       rfl
      exact norm_ (by first | (simp only [putAll, Act.put, zA, zB, zC]; done) | (simp only [putAll, Act.put, zA, zB, zC]; rfl)) (hJ0_3_4_7_8 (v388, v391, v394, v397, v400) _ ⟨hHeld, (by (with_reducible repeat (first | apply zL | apply zM | apply zN)); exact HO392.out), (by (with_reducible repeat (first | apply zL | apply zM | apply zN)); exact HO398.out), (by (with_reducible repeat (first | apply zL | apply zM | apply zN)); exact yd HO401.out (fun _ hk => ⟨hk.1.2, hk.2⟩)), (by (with_reducible repeat (first | refine zF ?_ _ | refine zH ?_ | refine zG ?_ _)); exact Z0.out), (by (with_reducible repeat (first | refine zF ?_ _ | refine zH ?_ | refine zG ?_ _)); exact Z1.out), (by repeat (first | (with_reducible first | exact HB.out | apply zJ | apply zD | apply zE | refine zI ?_ Z2.out | refine zI ?_ Z3.out) | exact HB.out))⟩)
    rintro ⟨v388, v391, v394, v397, v400⟩ w16 ⟨hS_, h0_, h1_, h2_, h3_, h4_, h5_⟩
    have n0_ : Aside0 (Kd.R (Kd.int .i8) 30 w16 w.heap.size (fun k_ => some k_ ≠ (v397 : Value).ownBlock ∧ some k_ ≠ (v400 : Value).ownBlock) v391 y390) := ⟨h0_⟩
    have n1_ : Aside0 (Kd.R (Kd.int .i8) 30 w16 w.heap.size (fun k_ => some k_ ≠ (v391 : Value).ownBlock ∧ some k_ ≠ (v400 : Value).ownBlock) v397 y396) := ⟨h1_⟩
    have n2_ : Aside0 (Kd.R (Kd.int .i8) 30 w16 w.heap.size (fun k_ => some k_ ≠ (v391 : Value).ownBlock ∧ some k_ ≠ (v397 : Value).ownBlock) v400 y399) := ⟨h2_⟩
    have n3_ : Aside0 (w16.heap[Z8]? = some (.cells #[.slice A0_0 l0_0.length c0_0, .slice A0_1 l0_1.length c0_1, .slice A0_2 l0_2.length c0_2, .int .i64 a0_3, .int .i64 a0_4, .int .i64 a0_5] 36 (0, 0))) := ⟨h3_⟩
    have n4_ : Aside0 (w16.heap[Z9]? = some (.cells #[.slice none 0 0, .slice none 0 0, .slice none 0 0, .int .i64 0, .int .i64 0, .int .i64 0] 43 (0, 0))) := ⟨h4_⟩
    have n5_ : Aside0 (Below w.heap.size w w16) := ⟨h5_⟩
    clear Z0 Z1 HB h0_ h1_ h2_ h3_ h4_ h5_
    have HO392 := n0_; have HO398 := n1_; have HO401 := n2_; have Z0 := n3_; have Z1 := n4_; have HB := n5_
    clear n0_ n1_ n2_ n3_ n4_ n5_
    have hHeld : w16.cell? ⟨Z8, 0, none⟩ = some (.slice A0_0 l0_0.length c0_0) ∧ w16.cell? ⟨Z8, 1, none⟩ = some (.slice A0_1 l0_1.length c0_1) ∧ w16.cell? ⟨Z8, 2, none⟩ = some (.slice A0_2 l0_2.length c0_2) ∧ w16.cell? ⟨Z8, 3, none⟩ = some (.int .i64 a0_3) ∧ w16.cell? ⟨Z8, 4, none⟩ = some (.int .i64 a0_4) ∧ w16.cell? ⟨Z8, 5, none⟩ = some (.int .i64 a0_5) := hS_
    refine norm_ (a' := ?_) ?_ ?_
    rotate_left
    ·simp only [putAll, Act.put, zA, zB, zC]
     rfl
    refine one_ (i := 11) (N := some 14) #[true, true, true, true, true, true, true, true, true, true, true, true, true, true, true, true, true, true, false, false] rfl rfl (one_of HT_.out (by kernel_rfl)) (by decide) (fun K hK => ?_)
    refine Kd.R_append_rows_step (Kd.int .i8) (w0 := w) w.heap.size (by rfl) (.tmp 11) (.tmp 13) 23 30 (.int .i8 0) 1 rfl Try.underlying23 info30 rfl (by decide) (by omega) v400 y399 l0_2 _ _ _ (fun k_ => some k_ ≠ (v391 : Value).ownBlock ∧ some k_ ≠ (v397 : Value).ownBlock) (fun _ => False) rfl rfl ?aO ?aR (fun _ _ h => h) (fun _ h => h.elim) ?aF ?aB ?aS ?aL ?_
    (case aR => repeat (first | exact (yc HR0_2.out HB.out) | (with_reducible refine yS ?_ _) | (with_reducible refine yT ?_ _) | (with_reducible refine yU ?_)))
    (case aB => exact (by repeat (first | (with_reducible first | exact HB.out | apply zJ | apply zD | apply zE | refine zI ?_ Z2.out | refine zI ?_ Z3.out) | exact HB.out)))
    (case aF => exact (fun k_ hk => ⟨Kd.fresh' (Kd.R_lt (by (with_reducible repeat (first | apply zL | apply zM | apply zN)); exact HO392.out)) k_ hk, Kd.fresh' (Kd.R_lt (by (with_reducible repeat (first | apply zL | apply zM | apply zN)); exact HO398.out)) k_ hk⟩))
    (case aO => exact (by (with_reducible repeat (first | apply zL | apply zM | apply zN)); exact HO401.out))
    (case aS => exact (yK (by repeat (first | (with_reducible first | exact HB.out | apply zJ | apply zD | apply zE | refine zI ?_ Z2.out | refine zI ?_ Z3.out) | exact HB.out))))
    (case aL => have := LMc4.out; omega)
    intro v403 w17 ho hb hg hat
    rw [← Ny402.out] at ho
    have n0_ := zK (blk_grown (g := Z8) (o := .cells #[.slice A0_0 l0_0.length c0_0, .slice A0_1 l0_1.length c0_1, .slice A0_2 l0_2.length c0_2, .int .i64 a0_3, .int .i64 a0_4, .int .i64 a0_5] 36 (0, 0)) (by (with_reducible repeat (first | refine zF ?_ _ | refine zH ?_ | refine zG ?_ _)); exact Z0.out) hg (Kd.R_ne HO401.out Z0.out (by decide)))
    have n1_ := zK (blk_grown (g := Z9) (o := .cells #[.slice none 0 0, .slice none 0 0, .slice none 0 0, .int .i64 0, .int .i64 0, .int .i64 0] 43 (0, 0)) (by (with_reducible repeat (first | refine zF ?_ _ | refine zH ?_ | refine zG ?_ _)); exact Z1.out) hg (Kd.R_ne HO401.out Z1.out (by decide)))
    have n2_ := zK (Kd.R_after (ok := (fun k_ => some k_ ≠ (v397 : Value).ownBlock)) (by (with_reducible repeat (first | apply zL | apply zM | apply zN)); exact HO392.out) hg hat)
    have n3_ := zK (Kd.R_after (ok := (fun k_ => some k_ ≠ (v391 : Value).ownBlock)) (by (with_reducible repeat (first | apply zL | apply zM | apply zN)); exact HO398.out) hg hat)
    have n4_ := zK (hb)
    have n5_ := zK (ho)
    clear Z0 Z1 HO392 HO398 HB HO401
    have Z0 := n0_; have Z1 := n1_; have HO392 := n2_; have HO398 := n3_; have HB := n4_; have HO404 := n5_
    clear n0_ n1_ n2_ n3_ n4_ n5_ ho hb hg hat
    obtain ⟨Ao18, co18, eo18⟩ := Kd.R_slice HO404.out
    (first | subst eo18 | (injection eo18 with f1_ f2_ f3_; have f4_ := f1_.symm; have f5_ := f3_.symm; clear f1_ f2_ f3_; subst f4_; subst f5_))
    obtain ⟨Ao19, co19, eo19⟩ := Kd.R_slice HO398.out
    (first | subst eo19 | (injection eo19 with f1_ f2_ f3_; have f4_ := f1_.symm; have f5_ := f3_.symm; clear f1_ f2_ f3_; subst f4_; subst f5_))
    obtain ⟨Ao20, co20, eo20⟩ := Kd.R_slice HO392.out
    (first | subst eo20 | (injection eo20 with f1_ f2_ f3_; have f4_ := f1_.symm; have f5_ := f3_.symm; clear f1_ f2_ f3_; subst f4_; subst f5_))
    refine hK.out _ _ ⟨(zO Z0.out 0).trans rfl, (zO Z0.out 1).trans rfl, (zO Z0.out 2).trans rfl, (zO Z0.out 3).trans rfl, (zO Z0.out 4).trans rfl, (zO Z0.out 5).trans rfl⟩ (fun hHeld => ?_)
    clear hK K
    refine norm_ (a' := ?_) ?_ ?_
    rotate_left
    ·show Act.put _ (some 14) _ = _
     simp only [Act.put, zA, zB, zC, i64_w, i32_w]
     rfl
    refine pure_ (i := 18) (N := some 21) (v := ?_) (a' := ?_) #[true, true, true, true, true, true, true, true, true, true, true, true, true, true, true, true, true, true, true, false] rfl rfl (any_of HT_.out (by kernel_rfl)) (fun _ _ _ h => h) (Or.inl ⟨by rfl, ?_⟩) ?_ ?_
    rotate_left
    ·intro w'
     go_simp
     with_reducible rfl
    rotate_left
    ·simp only [Act.put, zA, zB, zC, i64_w, i32_w]
     rfl
    refine one_ (i := 19) (N := none) #[true, true, true, true, true, true, true, true, true, true, true, true, true, true, true, true, true, true, true, true] rfl rfl (one_of HT_.out (by kernel_rfl)) (by decide) (fun K hK => ?_)
    have hs21 : w17.cell? ⟨Z9, 0, none⟩ = some (.slice none 0 0) := (zO Z1.out 0).trans rfl
    have hfs21 := yE Z1.out 0
    have hns21_0 := Z6.out
    have hms21_0 := Z7.out
    have hs22 : w17.cell? ⟨Z9, 1, none⟩ = some (.slice none 0 0) := (zO Z1.out 1).trans rfl
    have hfs22 := yE Z1.out 1
    have hns22_0 := Z6.out
    have hms22_0 := Z7.out
    have hs23 : w17.cell? ⟨Z9, 2, none⟩ = some (.slice none 0 0) := (zO Z1.out 2).trans rfl
    have hfs23 := yE Z1.out 2
    have hns23_0 := Z6.out
    have hms23_0 := Z7.out
    have hs24 : w17.cell? ⟨Z9, 3, none⟩ = some (.int .i64 0) := (zO Z1.out 3).trans rfl
    have hfs24 := yE Z1.out 3
    have hns24_0 := Z6.out
    have hms24_0 := Z7.out
    have hs25 : w17.cell? ⟨Z9, 4, none⟩ = some (.int .i64 0) := (zO Z1.out 4).trans rfl
    have hfs25 := yE Z1.out 4
    have hns25_0 := Z6.out
    have hms25_0 := Z7.out
    have hs26 : w17.cell? ⟨Z9, 5, none⟩ = some (.int .i64 0) := (zO Z1.out 5).trans rfl
    have hfs26 := yE Z1.out 5
    have hns26_0 := Z6.out
    have hms26_0 := Z7.out
    refine skip_ (w1 := ?_) (by rfl) rfl ?_ ?_
    rotate_left
    ·go_simp
     rfl
    refine hK.out _ _ ⟨((yp (p := ⟨Z9, _, none⟩) Z6.out _).trans (((yp (p := ⟨Z9, _, none⟩) Z6.out _).trans (((yp (p := ⟨Z9, _, none⟩) Z6.out _).trans (((yp (p := ⟨Z9, _, none⟩) Z6.out _).trans (((yp (p := ⟨Z9, _, none⟩) Z6.out _).trans (((yp (p := ⟨Z9, _, none⟩) Z6.out _).trans (hHeld.1)))))))))))), ((yp (p := ⟨Z9, _, none⟩) Z6.out _).trans (((yp (p := ⟨Z9, _, none⟩) Z6.out _).trans (((yp (p := ⟨Z9, _, none⟩) Z6.out _).trans (((yp (p := ⟨Z9, _, none⟩) Z6.out _).trans (((yp (p := ⟨Z9, _, none⟩) Z6.out _).trans (((yp (p := ⟨Z9, _, none⟩) Z6.out _).trans (hHeld.2.1)))))))))))), ((yp (p := ⟨Z9, _, none⟩) Z6.out _).trans (((yp (p := ⟨Z9, _, none⟩) Z6.out _).trans (((yp (p := ⟨Z9, _, none⟩) Z6.out _).trans (((yp (p := ⟨Z9, _, none⟩) Z6.out _).trans (((yp (p := ⟨Z9, _, none⟩) Z6.out _).trans (((yp (p := ⟨Z9, _, none⟩) Z6.out _).trans (hHeld.2.2.1)))))))))))), ((yp (p := ⟨Z9, _, none⟩) Z6.out _).trans (((yp (p := ⟨Z9, _, none⟩) Z6.out _).trans (((yp (p := ⟨Z9, _, none⟩) Z6.out _).trans (((yp (p := ⟨Z9, _, none⟩) Z6.out _).trans (((yp (p := ⟨Z9, _, none⟩) Z6.out _).trans (((yp (p := ⟨Z9, _, none⟩) Z6.out _).trans (hHeld.2.2.2.1)))))))))))), ((yp (p := ⟨Z9, _, none⟩) Z6.out _).trans (((yp (p := ⟨Z9, _, none⟩) Z6.out _).trans (((yp (p := ⟨Z9, _, none⟩) Z6.out _).trans (((yp (p := ⟨Z9, _, none⟩) Z6.out _).trans (((yp (p := ⟨Z9, _, none⟩) Z6.out _).trans (((yp (p := ⟨Z9, _, none⟩) Z6.out _).trans (hHeld.2.2.2.2.1)))))))))))), ((yp (p := ⟨Z9, _, none⟩) Z6.out _).trans (((yp (p := ⟨Z9, _, none⟩) Z6.out _).trans (((yp (p := ⟨Z9, _, none⟩) Z6.out _).trans (((yp (p := ⟨Z9, _, none⟩) Z6.out _).trans (((yp (p := ⟨Z9, _, none⟩) Z6.out _).trans (((yp (p := ⟨Z9, _, none⟩) Z6.out _).trans (hHeld.2.2.2.2.2))))))))))))⟩ (fun hHeld => ?_)
    clear hK K
    refine done_ (done_of HT_.out (by kernel_rfl)) ?_
    try go_wp2
    refine bodyPost_ret (results_cell_row rfl _ _ Z9 43 #[.slice Ao20 y390.length co20, .slice Ao19 y396.length co19, .slice Ao18 y402.length co18, .int .i64 a0_3, .int .i64 a0_4, .int .i64 a0_5] (0, 0) _ rfl (by (with_reducible repeat (first | refine zF ?_ _ | refine zH ?_ | refine zG ?_ _)); refine blk_put (cs := #[.slice Ao20 y390.length co20, .slice Ao19 y396.length co19, .slice Ao18 y402.length co18, .int .i64 a0_3, .int .i64 a0_4, .int .i64 0]) ?_ 5 _ rfl; (with_reducible repeat (first | refine zF ?_ _ | refine zH ?_ | refine zG ?_ _)); refine blk_put (cs := #[.slice Ao20 y390.length co20, .slice Ao19 y396.length co19, .slice Ao18 y402.length co18, .int .i64 a0_3, .int .i64 0, .int .i64 0]) ?_ 4 _ rfl; (with_reducible repeat (first | refine zF ?_ _ | refine zH ?_ | refine zG ?_ _)); refine blk_put (cs := #[.slice Ao20 y390.length co20, .slice Ao19 y396.length co19, .slice Ao18 y402.length co18, .int .i64 0, .int .i64 0, .int .i64 0]) ?_ 3 _ rfl; (with_reducible repeat (first | refine zF ?_ _ | refine zH ?_ | refine zG ?_ _)); refine blk_put (cs := #[.slice Ao20 y390.length co20, .slice Ao19 y396.length co19, .slice none 0 0, .int .i64 0, .int .i64 0, .int .i64 0]) ?_ 2 _ rfl; (with_reducible repeat (first | refine zF ?_ _ | refine zH ?_ | refine zG ?_ _)); refine blk_put (cs := #[.slice Ao20 y390.length co20, .slice none 0 0, .slice none 0 0, .int .i64 0, .int .i64 0, .int .i64 0]) ?_ 1 _ rfl; (with_reducible repeat (first | refine zF ?_ _ | refine zH ?_ | refine zG ?_ _)); refine blk_put (cs := #[.slice none 0 0, .slice none 0 0, .slice none 0 0, .int .i64 0, .int .i64 0, .int .i64 0]) ?_ 0 _ rfl; (with_reducible repeat (first | refine zF ?_ _ | refine zH ?_ | refine zG ?_ _)); exact Z1.out) Try.underlying43 rfl (by kernel_rfl)) rfl ?_
    exact ⟨_, _, _, by first | rfl | (simp [errW_none, errW_some] <;> rfl) | (simp [*, errW_none, errW_some] <;> rfl), by (with_reducible repeat (first | apply zL | apply zM | apply zN)); exact yd (Kd.R_far (p := ⟨Z9, 5, none⟩) (Kd.R_far (p := ⟨Z9, 4, none⟩) (Kd.R_far (p := ⟨Z9, 3, none⟩) (Kd.R_far (p := ⟨Z9, 2, none⟩) (Kd.R_far (p := ⟨Z9, 1, none⟩) (Kd.R_far (p := ⟨Z9, 0, none⟩) (Kd.R_types HO392.out Z1.out (by decide)) (fun _ hk => hk.2) (.slice Ao20 y390.length co20)) (fun _ hk => hk.2) (.slice Ao19 y396.length co19)) (fun _ hk => hk.2) (.slice Ao18 y402.length co18)) (fun _ hk => hk.2) (.int .i64 a0_3)) (fun _ hk => hk.2) (.int .i64 a0_4)) (fun _ hk => hk.2) (.int .i64 a0_5)) (fun _ hk => ⟨hk.1.1, hk.1.2⟩), by (with_reducible repeat (first | apply zL | apply zM | apply zN)); exact yd (Kd.R_far (p := ⟨Z9, 5, none⟩) (Kd.R_far (p := ⟨Z9, 4, none⟩) (Kd.R_far (p := ⟨Z9, 3, none⟩) (Kd.R_far (p := ⟨Z9, 2, none⟩) (Kd.R_far (p := ⟨Z9, 1, none⟩) (Kd.R_far (p := ⟨Z9, 0, none⟩) (Kd.R_types HO398.out Z1.out (by decide)) (fun _ hk => hk.2) (.slice Ao20 y390.length co20)) (fun _ hk => hk.2) (.slice Ao19 y396.length co19)) (fun _ hk => hk.2) (.slice Ao18 y402.length co18)) (fun _ hk => hk.2) (.int .i64 a0_3)) (fun _ hk => hk.2) (.int .i64 a0_4)) (fun _ hk => hk.2) (.int .i64 a0_5)) (fun _ hk => ⟨hk.1.1, hk.1.2⟩), by (with_reducible repeat (first | apply zL | apply zM | apply zN)); exact yd (Kd.R_far (p := ⟨Z9, 5, none⟩) (Kd.R_far (p := ⟨Z9, 4, none⟩) (Kd.R_far (p := ⟨Z9, 3, none⟩) (Kd.R_far (p := ⟨Z9, 2, none⟩) (Kd.R_far (p := ⟨Z9, 1, none⟩) (Kd.R_far (p := ⟨Z9, 0, none⟩) (Kd.R_types HO404.out Z1.out (by decide)) (fun _ hk => hk.2) (.slice Ao20 y390.length co20)) (fun _ hk => hk.2) (.slice Ao19 y396.length co19)) (fun _ hk => hk.2) (.slice Ao18 y402.length co18)) (fun _ hk => hk.2) (.int .i64 a0_3)) (fun _ hk => hk.2) (.int .i64 a0_4)) (fun _ hk => hk.2) (.int .i64 a0_5)) (fun _ hk => ⟨hk.1.1, hk.1.2⟩), by repeat (first | (with_reducible first | exact HB.out | apply zJ | apply zD | apply zE | refine zI ?_ Z2.out | refine zI ?_ Z3.out) | exact HB.out)⟩
   ·rw [if_neg c4] at H
    exact absurd H (by simp)
  ·rw [if_neg c3] at H
   exact absurd H (by simp)
 ·rw [if_neg c2] at H
  exact absurd H (by simp)

end Go.Proofs.Ytjcfhgpaipbedaa.A
