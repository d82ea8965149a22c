-- Printed by this session's own driver (wip/tools/xprint.py) over the kit's printer; given functions are this session's own.
import Derived.Test.YtjcfhgpaipbedaaA0
import Derived.Test.YtjcfhgpaipbedaaA1
import Derived.Test.YtjcfhgpaipbedaaA2
import Derived.Test.YtjcfhgpaipbedaaA3
import Derived.Test.YtjcfhgpaipbedaaA4
import Derived.Test.YtjcfhgpaipbedaaA9
import Derived.Test.YtjcfhgpaipbedaaA11
import Derived.Test.YtjcfhgpaipbedaaA12
namespace Go.Proofs.Ytjcfhgpaipbedaa.A
open Go.RowKit Go.Proofs.YtjcfhgpaipbedaaW.PrintWords Go.Proofs.YtjcfhgpaipbedaaW.PrintLast Go.Proofs.YtjcfhgpaipbedaaW.PrintMore
attribute [local go_sem] max2_int min2_int max_two min_two max_three min_three max_four min_four   -- for this text's walks alone
set_option linter.unusedVariables false
set_option linter.unusedSimpArgs false

abbrev w12_ActShuts.b0 : Array Bool := #[false, false, false, false, false, false, false, false, false, false, false, false, false, false, false, false, false]
abbrev w12_ActShuts.b1 : Array Bool := #[true, false, false, false, false, false, false, false, false, false, false, false, false, false, false, false, false]
abbrev w12_ActShuts.b2 : Array Bool := #[true, true, false, false, false, false, false, false, false, false, false, false, false, false, false, false, false]
abbrev w12_ActShuts.b3 : Array Bool := #[true, true, true, false, false, false, false, false, false, false, false, false, false, false, false, false, false]
abbrev w12_ActShuts.b4 : Array Bool := #[true, true, true, true, false, false, false, false, false, false, false, false, false, false, false, false, false]
abbrev w12_ActShuts.b5 : Array Bool := #[true, true, true, true, true, false, false, false, false, false, false, false, false, false, false, false, false]
abbrev w12_ActShuts.b6 : Array Bool := #[true, true, true, true, true, true, false, false, false, false, false, false, false, false, false, false, false]
abbrev w12_ActShuts.b7 : Array Bool := #[true, true, true, true, true, true, true, false, false, false, false, false, false, false, false, false, false]
abbrev w12_ActShuts.b8 : Array Bool := #[true, true, true, true, true, true, true, true, false, false, false, false, false, false, false, false, false]
abbrev w12_ActShuts.b9 : Array Bool := #[true, true, true, true, true, true, true, true, true, false, false, false, false, false, false, false, false]
abbrev w12_ActShuts.b10 : Array Bool := #[true, true, true, true, true, true, true, true, true, true, false, false, false, false, false, false, false]
abbrev w12_ActShuts.b11 : Array Bool := #[true, true, true, true, true, true, true, true, true, true, true, false, false, false, false, false, false]
abbrev w12_ActShuts.b12 : Array Bool := #[true, true, true, true, true, true, true, true, true, true, true, true, false, false, false, false, false]
abbrev w12_ActShuts.b13 : Array Bool := #[true, true, true, true, true, true, true, true, true, true, true, true, true, false, false, false, false]
abbrev w12_ActShuts.b14 : Array Bool := #[true, true, true, true, true, true, true, true, true, true, true, true, true, true, false, false, false]
abbrev w12_ActShuts.b15 : Array Bool := #[true, true, true, true, true, true, true, true, true, true, true, true, true, true, true, false, false]
abbrev w12_ActShuts.b16 : Array Bool := #[true, true, true, true, true, true, true, true, true, true, true, true, true, true, true, true, false]
abbrev w12_ActShuts.b17 : Array Bool := #[true, true, true, true, true, true, true, true, true, true, true, true, true, true, true, true, true]
abbrev w12_ActShuts.b18 : Array Bool := #[false, false, false, false, false, false, false, false, false, false, false, false, false, false, false, false, false, false, false, false, false, false, false, false]
abbrev w12_ActShuts.b19 : Array Bool := #[true, false, false, false, false, false, false, false, false, false, false, false, false, false, false, false, false, false, false, false, false, false, false, false]
abbrev w12_ActShuts.b20 : Array Bool := #[true, true, false, false, false, false, false, false, false, false, false, false, false, false, false, false, false, false, false, false, false, false, false, false]
abbrev w12_ActShuts.b21 : Array Bool := #[true, true, true, false, false, false, false, false, false, false, false, false, false, false, false, false, false, false, false, false, false, false, false, false]
abbrev w12_ActShuts.b22 : Array Bool := #[true, true, true, true, false, false, false, false, false, false, false, false, false, false, false, false, false, false, false, false, false, false, false, false]
abbrev w12_ActShuts.b23 : Array Bool := #[true, true, true, true, true, false, false, false, false, false, false, false, false, false, false, false, false, false, false, false, false, false, false, false]
abbrev w12_ActShuts.b24 : Array Bool := #[true, true, true, true, true, true, false, false, false, false, false, false, false, false, false, false, false, false, false, false, false, false, false, false]
abbrev w12_ActShuts.b25 : Array Bool := #[true, true, true, true, true, true, true, false, false, false, false, false, false, false, false, false, false, false, false, false, false, false, false, false]
abbrev w12_ActShuts.b26 : Array Bool := #[true, true, true, true, true, true, true, true, false, false, false, false, false, false, false, false, false, false, false, false, false, false, false, false]
abbrev w12_ActShuts.b27 : Array Bool := #[true, true, true, true, true, true, true, true, true, false, false, false, false, false, false, false, false, false, false, false, false, false, false, false]
abbrev w12_ActShuts.b28 : Array Bool := #[true, true, true, true, true, true, true, true, true, true, false, false, false, false, false, false, false, false, false, false, false, false, false, false]
abbrev w12_ActShuts.b29 : Array Bool := #[true, true, true, true, true, true, true, true, true, true, true, false, false, false, false, false, false, false, false, false, false, false, false, false]
abbrev w12_ActShuts.b30 : Array Bool := #[true, true, true, true, true, true, true, true, true, true, true, true, false, false, false, false, false, false, false, false, false, false, false, false]
abbrev w12_ActShuts.b31 : Array Bool := #[true, true, true, true, true, true, true, true, true, true, true, true, true, false, false, false, false, false, false, false, false, false, false, false]
abbrev w12_ActShuts.b32 : Array Bool := #[true, true, true, true, true, true, true, true, true, true, true, true, true, true, false, false, false, false, false, false, false, false, false, false]
abbrev w12_ActShuts.b33 : Array Bool := #[true, true, true, true, true, true, true, true, true, true, true, true, true, true, true, false, false, false, false, false, false, false, false, false]
abbrev w12_ActShuts.b34 : Array Bool := #[true, true, true, true, true, true, true, true, true, true, true, true, true, true, true, true, false, false, false, false, false, false, false, false]
abbrev w12_ActShuts.b35 : Array Bool := #[true, true, true, true, true, true, true, true, true, true, true, true, true, true, true, true, true, false, false, false, false, false, false, false]
abbrev w12_ActShuts.b36 : Array Bool := #[true, true, true, true, true, true, true, true, true, true, true, true, true, true, true, true, true, false, true, false, false, false, false, false]
abbrev w12_ActShuts.b37 : Array Bool := #[true, true, true, true, true, true, true, true, true, true, true, true, true, true, true, true, true, false, true, true, false, false, false, false]
abbrev w12_ActShuts.b38 : Array Bool := #[true, true, true, true, true, true, true, true, true, true, true, true, true, true, true, true, true, false, true, true, true, false, false, false]
abbrev w12_ActShuts.b39 : Array Bool := #[true, true, true, true, true, true, true, true, true, true, true, true, true, true, true, true, true, true, true, true, true, false, false, false]
abbrev w12_ActShuts.b40 : Array Bool := #[true, true, true, true, true, true, true, true, true, true, true, true, true, true, true, true, true, true, true, true, true, true, false, false]
abbrev w12_ActShuts.b41 : Array Bool := #[true, true, true, true, true, true, true, true, true, true, true, true, true, true, true, true, true, true, true, true, true, true, true, false]
abbrev w12_ActShuts.b42 : Array Bool := #[true, true, true, true, true, true, true, true, true, true, true, true, true, true, true, true, true, true, true, true, true, true, true, true]
abbrev w12_ActShuts.b43 : Array Bool := #[true, true, true, true, true, true, true, true, true, true, true, true, true, true, true, true, true, true, false, false, false, false, false, false]
abbrev w12_ActShuts.b44 : Array Bool := #[true, true, true, true, true, true, true, true, true, true, true, true, true, true, true, true, true, true, true, false, false, false, false, false]
abbrev w12_ActShuts.b45 : Array Bool := #[true, true, true, true, true, true, true, true, true, true, true, true, true, true, true, true, true, true, true, true, false, false, false, false]
/-! ### w12_ActShuts: function 7 -/
mutual
def w12_ActShuts.j0 : Nat → List Int → List Int → List Int → List Int → Int → Bool → List Int → List Int → List Int → Int → Int → Int → Option (Bool)
 | 0, _, _, _, _, _, _, _, _, _, _, _, _ => none
 | k + 1, x0, x1, x7, x8, x9, x39, Y0, Y1, Y2, Y3, Y4, Y5 => if x39 = true then (if x9 = 81 then (some ((x8.length : Int) == 0)) else (some false)) else (if (x0.length : Int) = (x1.length : Int) then (if x9 = 0 then (w12_ActShuts.j1 k x0 x1 x7 x8 ((x8.length : Int) != (x0.length : Int)) Y0 Y1 Y2 Y3 Y4 Y5) else (w12_ActShuts.j1 k x0 x1 x7 x8 true Y0 Y1 Y2 Y3 Y4 Y5)) else (if x9 = 80 then (some ((x8.length : Int) == 0)) else (some false)))
def w12_ActShuts.j1 : Nat → List Int → List Int → List Int → List Int → Bool → List Int → List Int → List Int → Int → Int → Int → Option (Bool)
 | 0, _, _, _, _, _, _, _, _, _, _, _ => none
 | k + 1, x0, x1, x7, x8, x67, Y0, Y1, Y2, Y3, Y4, Y5 => if x67 = true then (some false) else ((act_Table.f 2).bind fun bt484 => ((act_Gate.f k bt484.1 x0 x1).bind fun bt488 => (if bt488.2 = 0 then (w12_ActShuts.j2 k x0 x1 x7 x8 bt484.1 bt488.1 ((bt488.1.length : Int) != (x0.length : Int)) Y0 Y1 Y2 Y3 Y4 Y5) else (w12_ActShuts.j2 k x0 x1 x7 x8 bt484.1 bt488.1 true Y0 Y1 Y2 Y3 Y4 Y5))))
def w12_ActShuts.j2 : Nat → List Int → List Int → List Int → List Int → List Int → List Int → Bool → List Int → List Int → List Int → Int → Int → Int → Option (Bool)
 | 0, _, _, _, _, _, _, _, _, _, _, _, _, _ => none
 | k + 1, x0, x1, x7, x8, x10, x12, x87, Y0, Y1, Y2, Y3, Y4, Y5 => if x87 = true then (some false) else (w12_ActShuts.l0 k x0 x1 x7 x8 x10 x12 (x8.length : Int) 0 Y0 Y1 Y2 Y3 Y4 Y5)
def w12_ActShuts.l0 : Nat → List Int → List Int → List Int → List Int → List Int → List Int → Int → Int → List Int → List Int → List Int → Int → Int → Int → Option (Bool)
 | 0, _, _, _, _, _, _, _, _, _, _, _, _, _, _ => none
 | k + 1, x0, x1, x7, x8, x10, x12, x89, x90, Y0, Y1, Y2, Y3, Y4, Y5 => if x90 < x89 then (if 0 ≤ x90 then (if x90 ≤ (wrap64 (x90 + 1)) then (if (wrap64 (x90 + 1)) ≤ (x0.length : Int) then (if (wrap64 (x90 + 1)) ≤ (x1.length : Int) then ((act_Gate.f k x10 ((x0.take ((wrap64 (x90 + 1)) : Int).toNat).drop (x90 : Int).toNat) ((x1.take ((wrap64 (x90 + 1)) : Int).toNat).drop (x90 : Int).toNat)).bind fun bt494 => (if x90 < (x8.length : Int) then (if (rd x8 x90) = 0 then (if bt494.2 = 0 then (if (bt494.1.length : Int) = 1 then (if 0 < (bt494.1.length : Int) then (if x90 < (x12.length : Int) then (if (rd bt494.1 0) = (rd x12 x90) then (w12_ActShuts.l0 k x0 x1 x7 x8 x10 x12 x89 (wrap64 (x90 + 1)) Y0 Y1 Y2 Y3 Y4 Y5) else (some false)) else (none)) else (none)) else (some false)) else (some false)) else (some false)) else (none))) else (none)) else (none)) else (none)) else (none)) else ((w12_copied.f Y0 Y1 Y2 Y3 Y4 Y5).bind fun bt501 => ((act_Middle.f k bt501.1 bt501.2.1 bt501.2.2.1 bt501.2.2.2.1 bt501.2.2.2.2.1 bt501.2.2.2.2.2 x7 x0).bind fun bt513 => ((w12_plain.f Y0 Y1 Y2 Y3 Y4 Y5).bind fun bt517 => ((r12_Run.f k bt517.1 bt517.2.1 bt517.2.2.1 bt517.2.2.2.1 bt517.2.2.2.2.1 bt517.2.2.2.2.2 x7 x0).bind fun bt529 => (if bt513.2 = bt529.2 then (w12_ActShuts.j4 k bt513.1 ((bt513.1.length : Int) != (bt529.1.length : Int))) else (w12_ActShuts.j4 k bt513.1 true))))))
def w12_ActShuts.j4 : Nat → List Int → Bool → Option (Bool)
 | 0, _, _ => none
 | k + 1, x17, x158 => if x158 = true then (some false) else (w12_ActShuts.l1 k x17 (x17.length : Int) 0)
def w12_ActShuts.l1 : Nat → List Int → Int → Int → Option (Bool)
 | 0, _, _, _ => none
 | k + 1, x159, x160, x161 => if x161 < x160 then (if 0 ≤ x161 then (if x161 < (x159.length : Int) then (if (rd x159 x161) = 0 then (w12_ActShuts.l1 k x159 x160 (wrap64 (x161 + 1))) else (some false)) else (none)) else (none)) else (some true)
end
def w12_ActShuts.f (k : Nat) (l0 : List Int) (l1 : List Int) (l2_0 : List Int) (l2_1 : List Int) (l2_2 : List Int) (a2_3 : Int) (a2_4 : Int) (a2_5 : Int) : Option (Bool) := (w12_awake.f k).bind fun t476 => (if t476 = true then (if 256 ≤ 281474976710656 then ((some (List.replicate 256 0 : List Int)).bind fun y477 => ((act_Gate.f k y477 l0 l1).bind fun bt480 => (if (l0.length : Int) > 1048576 then (w12_ActShuts.j0 k l0 l1 y477 bt480.1 bt480.2 true l2_0 l2_1 l2_2 a2_3 a2_4 a2_5) else (w12_ActShuts.j0 k l0 l1 y477 bt480.1 bt480.2 (decide ((l1.length : Int) > 1048576)) l2_0 l2_1 l2_2 a2_3 a2_4 a2_5)))) else (none)) else (some false))
theorem w12_ActShuts.mono_l : ∀ k, (∀ y0 y1 y2 y3 y4 y5 y6 y7 y8 y9 y10 y11, LeO (w12_ActShuts.j0 k y0 y1 y2 y3 y4 y5 y6 y7 y8 y9 y10 y11) (w12_ActShuts.j0 (k + 1) y0 y1 y2 y3 y4 y5 y6 y7 y8 y9 y10 y11)) ∧ (∀ y0 y1 y2 y3 y4 y5 y6 y7 y8 y9 y10, LeO (w12_ActShuts.j1 k y0 y1 y2 y3 y4 y5 y6 y7 y8 y9 y10) (w12_ActShuts.j1 (k + 1) y0 y1 y2 y3 y4 y5 y6 y7 y8 y9 y10)) ∧ (∀ y0 y1 y2 y3 y4 y5 y6 y7 y8 y9 y10 y11 y12, LeO (w12_ActShuts.j2 k y0 y1 y2 y3 y4 y5 y6 y7 y8 y9 y10 y11 y12) (w12_ActShuts.j2 (k + 1) y0 y1 y2 y3 y4 y5 y6 y7 y8 y9 y10 y11 y12)) ∧ (∀ y0 y1 y2 y3 y4 y5 y6 y7 y8 y9 y10 y11 y12 y13, LeO (w12_ActShuts.l0 k y0 y1 y2 y3 y4 y5 y6 y7 y8 y9 y10 y11 y12 y13) (w12_ActShuts.l0 (k + 1) y0 y1 y2 y3 y4 y5 y6 y7 y8 y9 y10 y11 y12 y13)) ∧ (∀ y0 y1, LeO (w12_ActShuts.j4 k y0 y1) (w12_ActShuts.j4 (k + 1) y0 y1)) ∧ (∀ y0 y1 y2, LeO (w12_ActShuts.l1 k y0 y1 y2) (w12_ActShuts.l1 (k + 1) y0 y1 y2))
 | 0 => ⟨fun _ _ _ _ _ _ _ _ _ _ _ _ r h => by simp [w12_ActShuts.j0] at h, fun _ _ _ _ _ _ _ _ _ _ _ r h => by simp [w12_ActShuts.j1] at h, fun _ _ _ _ _ _ _ _ _ _ _ _ _ r h => by simp [w12_ActShuts.j2] at h, fun _ _ _ _ _ _ _ _ _ _ _ _ _ _ r h => by simp [w12_ActShuts.l0] at h, fun _ _ r h => by simp [w12_ActShuts.j4] at h, fun _ _ _ r h => by simp [w12_ActShuts.l1] at h⟩
 | k + 1 => by
  obtain ⟨ih0, ih1, ih2, ih3, ih4, ih5⟩ := w12_ActShuts.mono_l k
  refine ⟨?_, ?_, ?_, ?_, ?_, ?_⟩ <;> (intros; first | unfold w12_ActShuts.j0 | unfold w12_ActShuts.j1 | unfold w12_ActShuts.j2 | unfold w12_ActShuts.l0 | unfold w12_ActShuts.j4 | unfold w12_ActShuts.l1)
  all_goals repeat' first
   | (with_reducible exact ih0 _ _ _ _ _ _ _ _ _ _ _ _)
   | (with_reducible exact ih1 _ _ _ _ _ _ _ _ _ _ _)
   | (with_reducible exact ih2 _ _ _ _ _ _ _ _ _ _ _ _ _)
   | (with_reducible exact ih3 _ _ _ _ _ _ _ _ _ _ _ _ _ _)
   | (with_reducible exact ih4 _ _)
   | (with_reducible exact ih5 _ _ _)
   | (with_reducible exact act_Gate.mono _ _ _ _)
   | (with_reducible exact act_Middle.mono _ _ _ _ _ _ _ _ _)
   | (with_reducible exact r12_Run.mono _ _ _ _ _ _ _ _ _)
   | (with_reducible exact w12_awake.mono _)
   | (with_reducible exact yR _)
   | (with_reducible exact yO _)
   | (with_reducible refine yQ ?_ ?_)
   | (with_reducible refine yP ?_ (fun _ => ?_))
   | exact ih0 _ _ _ _ _ _ _ _ _ _ _ _
   | exact ih1 _ _ _ _ _ _ _ _ _ _ _
   | exact ih2 _ _ _ _ _ _ _ _ _ _ _ _ _
   | exact ih3 _ _ _ _ _ _ _ _ _ _ _ _ _ _
   | exact ih4 _ _
   | exact ih5 _ _ _
   | exact act_Gate.mono _ _ _ _
   | exact act_Middle.mono _ _ _ _ _ _ _ _ _
   | exact r12_Run.mono _ _ _ _ _ _ _ _ _
   | exact w12_awake.mono _
   | exact yO _
   | refine yQ ?_ ?_
   | refine yP ?_ (fun _ => ?_)
theorem w12_ActShuts.mono : ∀ a0 a1 a2 a3 a4 a5 a6 a7 k, LeO (w12_ActShuts.f k a0 a1 a2 a3 a4 a5 a6 a7) (w12_ActShuts.f (k + 1) a0 a1 a2 a3 a4 a5 a6 a7) := by
 intro a0 a1 a2 a3 a4 a5 a6 a7 k
 obtain ⟨ih0, ih1, ih2, ih3, ih4, ih5⟩ := w12_ActShuts.mono_l k
 unfold w12_ActShuts.f
 repeat' first
   | (with_reducible exact ih0 _ _ _ _ _ _ _ _ _ _ _ _)
   | (with_reducible exact ih1 _ _ _ _ _ _ _ _ _ _ _)
   | (with_reducible exact ih2 _ _ _ _ _ _ _ _ _ _ _ _ _)
   | (with_reducible exact ih3 _ _ _ _ _ _ _ _ _ _ _ _ _ _)
   | (with_reducible exact ih4 _ _)
   | (with_reducible exact ih5 _ _ _)
   | (with_reducible exact act_Gate.mono _ _ _ _)
   | (with_reducible exact act_Middle.mono _ _ _ _ _ _ _ _ _)
   | (with_reducible exact r12_Run.mono _ _ _ _ _ _ _ _ _)
   | (with_reducible exact w12_awake.mono _)
   | (with_reducible exact yR _)
   | (with_reducible exact yO _)
   | (with_reducible refine yQ ?_ ?_)
   | (with_reducible refine yP ?_ (fun _ => ?_))
   | exact ih0 _ _ _ _ _ _ _ _ _ _ _ _
   | exact ih1 _ _ _ _ _ _ _ _ _ _ _
   | exact ih2 _ _ _ _ _ _ _ _ _ _ _ _ _
   | exact ih3 _ _ _ _ _ _ _ _ _ _ _ _ _ _
   | exact ih4 _ _
   | exact ih5 _ _ _
   | exact act_Gate.mono _ _ _ _
   | exact act_Middle.mono _ _ _ _ _ _ _ _ _
   | exact r12_Run.mono _ _ _ _ _ _ _ _ _
   | exact w12_awake.mono _
   | exact yO _
   | refine yQ ?_ ?_
   | refine yP ?_ (fun _ => ?_)
def w12_ActShuts.T18 : Bool × List (List Nat × List Nat) := (true, [([], []), ([], []), ([], []), ([], []), ([3], [3]), ([1, 2, 4], [1, 2, 4]), ([], []), ([], []), ([], []), ([8], [8]), ([6, 7, 9], [6, 7, 9]), ([0, 5, 10], [0, 5, 10]), ([11], [11]), ([12], [12]), ([12], [12]), ([13, 11, 0, 1, 2, 3, 4, 5, 6, 7, 8, 9, 10, 11, 12, 13], [13]), ([14, 15, 0, 1, 2, 3, 4, 5, 6, 7, 8, 9, 10, 11, 12, 13, 14, 15], [14])])
def w12_ActShuts.B18 : List Nat := [0, 0, 0, 0, 8, 30, 0, 0, 0, 256, 960, 2047, 4095, 8191, 8191, 16383, 65535]
theorem w12_ActShuts.tab18 : rtab .any (opsOf Try.f7 18) = w12_ActShuts.T18 := by kernel_rfl
theorem w12_ActShuts.bits18 : waitsOk w12_ActShuts.T18.2 w12_ActShuts.B18 = true := by kernel_rfl
def w12_ActShuts.T19 : Bool × List (List Nat × List Nat) := (true, [([], []), ([], []), ([0, 1], [0, 1]), ([2], [2]), ([3], [3]), ([4], [4]), ([5], [5]), ([6, 5], [5, 6]), ([5, 7], [5, 7]), ([8, 5], [8]), ([9], [9]), ([10, 9], [9, 10]), ([11, 9], [9, 11]), ([9, 12], [9, 12]), ([13, 9], [13]), ([14], [14]), ([15, 14], [14, 15]), ([16, 14], [14, 16]), ([14], [14]), ([14], [14]), ([18, 19, 14], [14, 18, 19]), ([20, 14], [14, 20]), ([17, 21, 14], [14, 17, 21]), ([14, 22], [14, 22])])
def w12_ActShuts.B19 : List Nat := [0, 0, 3, 7, 15, 31, 63, 127, 255, 511, 1023, 2047, 4095, 8191, 16383, 32767, 65535, 131071, 32767, 32767, 819199, 1867775, 4194303, 8388607]
theorem w12_ActShuts.tab19 : rtab .any (opsOf Try.f7 19) = w12_ActShuts.T19 := by kernel_rfl
theorem w12_ActShuts.bits19 : waitsOk w12_ActShuts.T19.2 w12_ActShuts.B19 = true := by kernel_rfl
set_option maxHeartbeats 8000000 in
set_option maxRecDepth 100000 in
theorem w12_ActShuts.calls (k : Nat) (A0 : Option Addr) (c0 : Nat) (l0 : List Int) (A1 : Option Addr) (c1 : Nat) (l1 : List Int) (A2_0 : Option Addr) (c2_0 : Nat) (l2_0 : List Int) (A2_1 : Option Addr) (c2_1 : Nat) (l2_1 : List Int) (A2_2 : Option Addr) (c2_2 : Nat) (l2_2 : List Int) (a2_3 : Int) (a2_4 : Int) (a2_5 : Int) (r : Bool) (w : World) (hr0 : Kd.C (Kd.int .i8) w A0 l0.length l0) (hc0 : l0.length ≤ c0) (hr1 : Kd.C (Kd.int .i8) w A1 l1.length l1) (hc1 : l1.length ≤ c1) (hr2_0 : Kd.C (Kd.int .i8) w A2_0 l2_0.length l2_0) (hc2_0 : l2_0.length ≤ c2_0) (hr2_1 : Kd.C (Kd.int .i8) w A2_1 l2_1.length l2_1) (hc2_1 : l2_1.length ≤ c2_1) (hr2_2 : Kd.C (Kd.int .i8) w A2_2 l2_2.length l2_2) (hc2_2 : l2_2.length ≤ c2_2) (h : w12_ActShuts.f k l0 l1 l2_0 l2_1 l2_2 a2_3 a2_4 a2_5 = some r) :
  Calls Try.prog 7 #[.slice A0 l0.length c0, .slice A1 l1.length c1, .agg #[.slice A2_0 l2_0.length c2_0, .slice A2_1 l2_1.length c2_1, .slice A2_2 l2_2.length c2_2, .int .i64 a2_3, .int .i64 a2_4, .int .i64 a2_5]] w fun e w' => e = .returned (.bool r) ∧ Below w.heap.size w w' := by
 have hu36 := Try.underlying36
 have HR0 := zK hr0
 have HC0 := zK hc0
 clear hr0 hc0
 have HR1 := zK hr1
 have HC1 := zK hc1
 clear hr1 hc1
 have HR2_0 := zK hr2_0
 have HC2_0 := zK hc2_0
 clear hr2_0 hc2_0
 have HR2_1 := zK hr2_1
 have HC2_1 := zK hc2_1
 clear hr2_1 hc2_1
 have HR2_2 := zK hr2_2
 have HC2_2 := zK hc2_2
 clear hr2_2 hc2_2
 have HB := zK (Below.refl w.heap.size w)
 have H : ((w12_awake.f k).bind fun t476 => (if t476 = true then (if 256 ≤ 281474976710656 then ((some (List.replicate 256 0 : List Int)).bind fun y477 => ((act_Gate.f k y477 l0 l1).bind fun bt480 => (if (l0.length : Int) > 1048576 then (w12_ActShuts.j0 k l0 l1 y477 bt480.1 bt480.2 true l2_0 l2_1 l2_2 a2_3 a2_4 a2_5) else (w12_ActShuts.j0 k l0 l1 y477 bt480.1 bt480.2 (decide ((l1.length : Int) > 1048576)) l2_0 l2_1 l2_2 a2_3 a2_4 a2_5)))) else (none)) else (some false))) = some r := h
 clear h
 replace H := yA.mp H
 obtain ⟨t476, A40, H⟩ := H
 replace H : (if t476 = true then (if 256 ≤ 281474976710656 then ((some (List.replicate 256 0 : List Int)).bind fun y477 => ((act_Gate.f k y477 l0 l1).bind fun bt480 => (if (l0.length : Int) > 1048576 then (w12_ActShuts.j0 k l0 l1 y477 bt480.1 bt480.2 true l2_0 l2_1 l2_2 a2_3 a2_4 a2_5) else (w12_ActShuts.j0 k l0 l1 y477 bt480.1 bt480.2 (decide ((l1.length : Int) > 1048576)) l2_0 l2_1 l2_2 a2_3 a2_4 a2_5)))) else (none)) else (some false)) = some r := H
 have A4 := zK A40
 clear A40
 by_cases c5 : t476 = true
 ·subst c5
  have H1 : (if 256 ≤ 281474976710656 then ((some (List.replicate 256 0 : List Int)).bind fun y477 => ((act_Gate.f k y477 l0 l1).bind fun bt480 => (if (l0.length : Int) > 1048576 then (w12_ActShuts.j0 k l0 l1 y477 bt480.1 bt480.2 true l2_0 l2_1 l2_2 a2_3 a2_4 a2_5) else (w12_ActShuts.j0 k l0 l1 y477 bt480.1 bt480.2 (decide ((l1.length : Int) > 1048576)) l2_0 l2_1 l2_2 a2_3 a2_4 a2_5)))) else (none)) = some r := by rw [if_pos rfl] at H; exact H
  clear H
  have H := H1
  clear H1
  by_cases c6 : 256 ≤ 281474976710656
  ·rw [if_pos c6] at H
   have c6b0 := yg c6
   have c6b1 : decide (256 ≤ 281474976710656) = true := yC c6
   clear c6
   obtain ⟨y477, hy477⟩ : ∃ y_ : List Int, y_ = (List.replicate 256 0) := ⟨_, rfl⟩
   replace H : ((act_Gate.f k y477 l0 l1).bind fun bt480 => (if (l0.length : Int) > 1048576 then (w12_ActShuts.j0 k l0 l1 y477 bt480.1 bt480.2 true l2_0 l2_1 l2_2 a2_3 a2_4 a2_5) else (w12_ActShuts.j0 k l0 l1 y477 bt480.1 bt480.2 (decide ((l1.length : Int) > 1048576)) l2_0 l2_1 l2_2 a2_3 a2_4 a2_5))) = some r := by first | (rw [hy477]; with_reducible exact H) | (have H2_ := (yV _ _).symm.trans H; rw [hy477]; with_reducible exact H2_) | (have H2_ := (yV _ _).symm.trans H; with_reducible exact H2_) | with_reducible exact H | (rw [hy477]; exact H) | exact H
   have Ny477 := zK hy477
   clear hy477
   replace H := yA.mp H
   obtain ⟨⟨t480, t481⟩, A70, H⟩ := H
   replace H : (if (l0.length : Int) > 1048576 then (w12_ActShuts.j0 k l0 l1 y477 t480 t481 true l2_0 l2_1 l2_2 a2_3 a2_4 a2_5) else (w12_ActShuts.j0 k l0 l1 y477 t480 t481 (decide ((l1.length : Int) > 1048576)) l2_0 l2_1 l2_2 a2_3 a2_4 a2_5)) = some r := H
   have A7 := zK A70
   clear A70
   have HC8 := zK H
   clear H
   go_enter Try.func7, Try.ntmps7
   go_upto_region 5 with (first | ((with_reducible refine gate_dst (N := 5) rfl ?_); refine box_event ?hg (N := 5) ?hd (cs := #[.slice A2_0 l2_0.length c2_0, .slice A2_1 l2_1.length c2_1, .slice A2_2 l2_2.length c2_2, .int .i64 a2_3, .int .i64 a2_4, .int .i64 a2_5]) (t := 36) ?hr ?_; (case hd => rfl); (case hg => rfl); (case hr => first | (go_simp; done) | (go_simp; rfl)); intro Z3 hg w9 hbox hb; have n0_ := zK (yL (by repeat (first | (with_reducible first | exact HB.out | apply zJ | apply zD | apply zE) | exact HB.out)) hb); have n1_ := zK (hbox); have n2_ := zK ((by rw [hg]; exact (yK (by repeat (first | (with_reducible first | exact HB.out | apply zJ | apply zD | apply zE) | exact HB.out))) : w.heap.size ≤ Z3)); have n3_ := zK ((by rw [hg]; exact (yK (by repeat (first | (with_reducible first | exact HB.out | apply zJ | apply zD | apply zE) | exact HB.out))) : w.heap.size ≤ Z3)); clear HB; have HB := n0_; have Z0 := n1_; have Z2 := n2_; have Z1 := n3_; clear n0_ n1_ n2_ n3_ hb hbox hg) | ((with_reducible refine gate_callee (f := 10) rfl ?_); refine goesL_ (some 22) rfl rfl Try.func10 (by kernel_rfl) rfl #[] rfl (by (try simp only [yH, yI, yJ]); first | done | rfl | (simp only [yG, yF]; rfl)) ?_; (with_reducible refine (w12_awake.calls k  true _ A4.out).mono ?_); rintro e w10 ⟨rfl, hb⟩; refine ⟨_, rfl, ?_⟩; have n0_ := zK (zP (g := Z3) (o := .cells #[.slice A2_0 l2_0.length c2_0, .slice A2_1 l2_1.length c2_1, .slice A2_2 l2_2.length c2_2, .int .i64 a2_3, .int .i64 a2_4, .int .i64 a2_5] 36 (0, 0)) (by (with_reducible repeat (first | refine zF ?_ _ | refine zH ?_ | refine zG ?_ _)); exact Z0.out) hb); have n1_ := zK (yL (by repeat (first | (with_reducible first | exact HB.out | apply zJ | apply zD | apply zE | refine zI ?_ Z1.out) | exact HB.out)) hb); clear Z0 HB; have Z0 := n0_; have HB := n1_; clear n0_ n1_; (try clear hb); (try clear hb2); (try clear hk); (try clear hi)) | ((with_reducible refine gate_dst (N := 24) rfl ?_); refine Kd.R_make (Kd.int .i8) _ 30 rfl (N := 24) rfl 23 _ _ rfl 256 rfl rfl Try.underlying23 (.int .i8 0) 1 info30 rfl (by decide) (by omega) 0 (ok := fun _ => True) (okp := fun _ => True) rfl (fun _ hk => hk) trivial (by omega) (by omega) (Below.refl _ _) (yN _) ?_; intro v478 w11 ho12 hb hg_ hnew_; clear hg_ hnew_; (first | rw [← Ny477.out] at ho12 | (simp only [Int.reduceToNat] at ho12; rw [← Ny477.out] at ho12)); have n0_ := zK (Kd.R_lower ho12 (yK (by repeat (first | (with_reducible first | exact HB.out | apply zJ | apply zD | apply zE | refine zI ?_ Z1.out) | exact HB.out)))); have n1_ := zK (zP (g := Z3) (o := .cells #[.slice A2_0 l2_0.length c2_0, .slice A2_1 l2_1.length c2_1, .slice A2_2 l2_2.length c2_2, .int .i64 a2_3, .int .i64 a2_4, .int .i64 a2_5] 36 (0, 0)) (by (with_reducible repeat (first | refine zF ?_ _ | refine zH ?_ | refine zG ?_ _)); exact Z0.out) hb); have n2_ := zK (yL (by repeat (first | (with_reducible first | exact HB.out | apply zJ | apply zD | apply zE | refine zI ?_ Z1.out) | exact HB.out)) hb); clear Z0 HB; have HO479 := n0_; have Z0 := n1_; have HB := n2_; clear n0_ n1_ n2_ hb ho12; obtain ⟨Ao13, co13, eo13⟩ := Kd.R_slice HO479.out; subst eo13) | ((with_reducible refine gate_callee (f := 14) rfl ?_); refine goesL_ (some 29) rfl rfl Try.func14 (by kernel_rfl) rfl #[.slice Ao13 y477.length co13, .slice A0 l0.length c0, .slice A1 l1.length c1] rfl (by (try simp only [yH, yI, yJ]); first | done | rfl | (simp only [yG, yF]; rfl)) ?_; (with_reducible refine (act_Gate.calls k _ _ y477 _ _ l0 _ _ l1 t480 t481 _ ?side1 ?side2 ?side3 ?side4 ?side5 ?side6 A7.out).mono ?_); (case side1 => repeat (first | exact (yM HO479.out).2.2 | (with_reducible refine yS ?_ _) | (with_reducible refine yT ?_ _) | (with_reducible refine yU ?_))); (case side2 => exact (yM HO479.out).2.1); (case side3 => repeat (first | exact (yc HR0.out HB.out) | (with_reducible refine yS ?_ _) | (with_reducible refine yT ?_ _) | (with_reducible refine yU ?_))); (case side4 => exact HC0.out); (case side5 => repeat (first | exact (yc HR1.out HB.out) | (with_reducible refine yS ?_ _) | (with_reducible refine yT ?_ _) | (with_reducible refine yU ?_))); (case side6 => exact HC1.out); rintro e w14 ⟨v482, rfl, ho0, hb⟩; refine ⟨_, rfl, ?_⟩; have n0_ := zK (Kd.R_elder' (by (with_reducible repeat (first | apply zL | apply zM | apply zN)); exact HO479.out) (Kd.R_base ho0) hb); have n1_ := zK (Kd.R_lower (Kd.R_new' ho0 (Kd.R_lt (by (with_reducible repeat (first | apply zL | apply zM | apply zN)); exact HO479.out))) (yK (by repeat (first | (with_reducible first | exact HB.out | apply zJ | apply zD | apply zE | refine zI ?_ Z1.out) | exact HB.out)))); have n2_ := zK (zP (g := Z3) (o := .cells #[.slice A2_0 l2_0.length c2_0, .slice A2_1 l2_1.length c2_1, .slice A2_2 l2_2.length c2_2, .int .i64 a2_3, .int .i64 a2_4, .int .i64 a2_5] 36 (0, 0)) (by (with_reducible repeat (first | refine zF ?_ _ | refine zH ?_ | refine zG ?_ _)); exact Z0.out) hb); have n3_ := zK (yL (by repeat (first | (with_reducible first | exact HB.out | apply zJ | apply zD | apply zE | refine zI ?_ Z1.out) | exact HB.out)) hb); clear HO479 Z0 HB; have HO479 := n0_; have HO483 := n1_; have Z0 := n2_; have HB := n3_; clear n0_ n1_ n2_ n3_; (try clear hb); (try clear hb2); (try clear hk); (try clear hi); (try clear ho0)))
   (try simp only [Act.put, zA, zB, zC])
   go_cut [39] (fun v39 wc => ∃ (kq : Nat) (x39_7 : Bool), v39 = .bool x39_7 ∧ Aside0 (w12_ActShuts.j0 kq l0 l1 y477 t480 t481 x39_7 l2_0 l2_1 l2_2 a2_3 a2_4 a2_5 = some r) ∧ Aside0 (kq ≤ k) ∧ Aside0 (Kd.R (Kd.int .i8) 30 wc w.heap.size (fun k_ => some k_ ≠ (v482 : Value).ownBlock) (.slice Ao13 y477.length co13) y477) ∧ Aside0 (Kd.R (Kd.int .i8) 30 wc w.heap.size (fun k_ => some k_ ≠ ((.slice Ao13 y477.length co13) : Value).ownBlock) v482 t480) ∧ Aside0 (wc.heap[Z3]? = some (.cells #[(.slice A2_0 l2_0.length c2_0), (.slice A2_1 l2_1.length c2_1), (.slice A2_2 l2_2.length c2_2), .int .i64 a2_3, .int .i64 a2_4, .int .i64 a2_5] 36 (0, 0))) ∧ Aside0 (Below w.heap.size w wc))
   case first =>
    have H := HC8.out
    clear HC8
    by_cases c15 : (l0.length : Int) > 1048576
    ·rw [if_pos c15] at H
     have c15b0 : decide (1048576 < (l0.length : Int)) = true := yC c15
     have c15b1 : decide (1048576 < l0.length) = true := yC (by omega)
     clear c15
     (first | rw [c15b0] | (simp only [i64_w, i32_w]; rw [c15b0]) | skip)
     have H' := zK H
     clear H
     go_wp2
     go_meet
     case rel => exact ⟨_, (true), (by first | rfl | (simp; done) | (simp [*]; done)), H', ⟨by first | omega | exact yN _⟩, ⟨by (with_reducible repeat (first | apply zL | apply zM | apply zN)); exact yd HO479.out (fun _ hk => hk.2)⟩, ⟨by (with_reducible repeat (first | apply zL | apply zM | apply zN)); exact yd HO483.out (fun _ hk => hk.2)⟩, ⟨by (with_reducible repeat (first | refine zF ?_ _ | refine zH ?_ | refine zG ?_ _)); exact Z0.out⟩, ⟨by repeat (first | (with_reducible first | exact HB.out | apply zJ | apply zD | apply zE | refine zI ?_ Z1.out) | exact HB.out)⟩⟩
    ·rw [if_neg c15] at H
     have c15b0 : decide (1048576 < (l0.length : Int)) = false := yD c15
     have c15b1 : decide (1048576 < l0.length) = false := yD (by omega)
     clear c15
     (first | rw [c15b0] | (simp only [i64_w, i32_w]; rw [c15b0]) | skip)
     have H' := zK H
     clear H
     go_wp2
     go_meet
     case rel => exact ⟨_, (decide ((l1.length : Int) > 1048576)), (by first | rfl | (simp; done) | (simp [*]; done)), H', ⟨by first | omega | exact yN _⟩, ⟨by (with_reducible repeat (first | apply zL | apply zM | apply zN)); exact yd HO479.out (fun _ hk => hk.2)⟩, ⟨by (with_reducible repeat (first | apply zL | apply zM | apply zN)); exact yd HO483.out (fun _ hk => hk.2)⟩, ⟨by (with_reducible repeat (first | refine zF ?_ _ | refine zH ?_ | refine zG ?_ _)); exact Z0.out⟩, ⟨by repeat (first | (with_reducible first | exact HB.out | apply zJ | apply zD | apply zE | refine zI ?_ Z1.out) | exact HB.out)⟩⟩
   case rest =>
    clear HC8
    try clear c1
    try clear c2
    try clear p2
    try clear c5
    try clear c6
    try clear c6b0
    try clear c6b1
    try clear c7
    try clear c10
    try clear c14
    try clear c15
    try clear c15b0
    try clear c15b1
    obtain ⟨kq, x39_7, rfl, HA, HJ7, HO_7, HO_8, Z0, HB⟩ := hcut
    cases kq with
    | zero => exact absurd HA.out (by simp [w12_ActShuts.j0])
    | succ kj7 =>
     have H := HA.out
     clear HA
     simp only [w12_ActShuts.j0] at H
     by_cases c16 : x39_7 = true
     ·subst c16
      have H1 : (if t481 = 81 then (some ((t480.length : Int) == 0)) else (some false)) = some r := by rw [if_pos rfl] at H; exact H
      clear H
      have H := H1
      clear H1
      by_cases c17 : t481 = 81
      ·rw [if_pos c17] at H
       have c17b0 : (t481 == 81) = true := beq_iff_eq.mpr c17
       have c17b1 : (t481 != 81) = false := bne_eq_false_iff_eq.mpr c17
       clear c17
       obtain rfl := yY H
       obtain ⟨Ao18, co18, eo18⟩ := Kd.R_slice HO_8.out
       subst eo18
       go_wp2
       go_ret
       exact ⟨by first | rfl | (simp [errW_none, errW_some] <;> rfl) | (simp [*, errW_none, errW_some] <;> rfl), by repeat (first | (with_reducible first | exact HB.out | apply zJ | apply zD | apply zE | refine zI ?_ Z1.out) | exact HB.out)⟩
      ·rw [if_neg c17] at H
       have c17b0 : (t481 == 81) = false := beq_eq_false_iff_ne.mpr c17
       have c17b1 : (t481 != 81) = true := bne_iff_ne.mpr c17
       obtain rfl := yY H
       go_wp2
       go_ret
       exact ⟨by first | rfl | (simp [errW_none, errW_some] <;> rfl) | (simp [*, errW_none, errW_some] <;> rfl), by repeat (first | (with_reducible first | exact HB.out | apply zJ | apply zD | apply zE | refine zI ?_ Z1.out) | exact HB.out)⟩
     ·replace c16 := yh.mpr c16
      subst c16
      have H1 : (if (l0.length : Int) = (l1.length : Int) then (if t481 = 0 then (w12_ActShuts.j1 kj7 l0 l1 y477 t480 ((t480.length : Int) != (l0.length : Int)) l2_0 l2_1 l2_2 a2_3 a2_4 a2_5) else (w12_ActShuts.j1 kj7 l0 l1 y477 t480 true l2_0 l2_1 l2_2 a2_3 a2_4 a2_5)) else (if t481 = 80 then (some ((t480.length : Int) == 0)) else (some false))) = some r := by rw [if_neg (show ¬ (false = true) by decide)] at H; exact H
      clear H
      have H := H1
      clear H1
      by_cases c19 : (l0.length : Int) = (l1.length : Int)
      ·rw [if_pos c19] at H
       have c19b0 : ((l0.length : Int) == (l1.length : Int)) = true := beq_iff_eq.mpr c19
       have c19b1 : ((l0.length : Int) != (l1.length : Int)) = false := bne_eq_false_iff_eq.mpr c19
       have c19b2 : (l0.length == l1.length) = true := by first | simpa using c19 | (simp at c19 ⊢; omega)
       clear c19
       have HC20 := zK H
       clear H
       go_upto_region 9 with (fail)
       go_cut [67] (fun v67 wc => ∃ (kq : Nat) (x67_19 : Bool), v67 = .bool x67_19 ∧ Aside0 (w12_ActShuts.j1 kq l0 l1 y477 t480 x67_19 l2_0 l2_1 l2_2 a2_3 a2_4 a2_5 = some r) ∧ Aside0 (kq ≤ kj7) ∧ Aside0 (Kd.R (Kd.int .i8) 30 wc w.heap.size (fun k_ => some k_ ≠ (v482 : Value).ownBlock) (.slice Ao13 y477.length co13) y477) ∧ Aside0 (Kd.R (Kd.int .i8) 30 wc w.heap.size (fun k_ => some k_ ≠ ((.slice Ao13 y477.length co13) : Value).ownBlock) v482 t480) ∧ Aside0 (wc.heap[Z3]? = some (.cells #[(.slice A2_0 l2_0.length c2_0), (.slice A2_1 l2_1.length c2_1), (.slice A2_2 l2_2.length c2_2), .int .i64 a2_3, .int .i64 a2_4, .int .i64 a2_5] 36 (0, 0))) ∧ Aside0 (Below w.heap.size w wc))
       case first =>
        have H := HC20.out
        clear HC20
        by_cases c21 : t481 = 0
        ·rw [if_pos c21] at H
         have c21b0 : (t481 == 0) = true := beq_iff_eq.mpr c21
         have c21b1 : (t481 != 0) = false := bne_eq_false_iff_eq.mpr c21
         clear c21
         (first | rw [c21b0] | (simp only [i64_w, i32_w]; rw [c21b0]) | skip)
         have H' := zK H
         clear H
         obtain ⟨Ao22, co22, eo22⟩ := Kd.R_slice HO_8.out
         subst eo22
         go_wp2
         go_meet
         case rel => exact ⟨_, (((t480.length : Int) != (l0.length : Int))), (by first | rfl | (simp; done) | (simp [*]; done)), H', ⟨by have := HJ7.out; first | omega | exact yN _⟩, ⟨by (with_reducible repeat (first | apply zL | apply zM | apply zN)); exact HO_7.out⟩, ⟨by (with_reducible repeat (first | apply zL | apply zM | apply zN)); exact HO_8.out⟩, ⟨by (with_reducible repeat (first | refine zF ?_ _ | refine zH ?_ | refine zG ?_ _)); exact Z0.out⟩, ⟨by repeat (first | (with_reducible first | exact HB.out | apply zJ | apply zD | apply zE | refine zI ?_ Z1.out) | exact HB.out)⟩⟩
        ·rw [if_neg c21] at H
         have c21b0 : (t481 == 0) = false := beq_eq_false_iff_ne.mpr c21
         have c21b1 : (t481 != 0) = true := bne_iff_ne.mpr c21
         (first | rw [c21b0] | (simp only [i64_w, i32_w]; rw [c21b0]) | skip)
         have H' := zK H
         clear H
         go_wp2
         go_meet
         case rel => exact ⟨_, (true), (by first | rfl | (simp; done) | (simp [*]; done)), H', ⟨by have := HJ7.out; first | omega | exact yN _⟩, ⟨by (with_reducible repeat (first | apply zL | apply zM | apply zN)); exact HO_7.out⟩, ⟨by (with_reducible repeat (first | apply zL | apply zM | apply zN)); exact HO_8.out⟩, ⟨by (with_reducible repeat (first | refine zF ?_ _ | refine zH ?_ | refine zG ?_ _)); exact Z0.out⟩, ⟨by repeat (first | (with_reducible first | exact HB.out | apply zJ | apply zD | apply zE | refine zI ?_ Z1.out) | exact HB.out)⟩⟩
       case rest =>
        clear HC20
        try clear c1
        try clear c2
        try clear p2
        try clear c5
        try clear c6
        try clear c6b0
        try clear c6b1
        try clear c7
        try clear c10
        try clear c14
        try clear c15
        try clear c15b0
        try clear c15b1
        try clear c16
        try clear c17
        try clear c17b0
        try clear c17b1
        try clear c19
        try clear c19b0
        try clear c19b1
        try clear c19b2
        try clear c21
        try clear c21b0
        try clear c21b1
        try clear p2
        obtain ⟨kq, x67_19, rfl, HA, HJ19, HO_7, HO_8, Z0, HB⟩ := hcut
        cases kq with
        | zero => exact absurd HA.out (by simp [w12_ActShuts.j1])
        | succ kj19 =>
         have H := HA.out
         clear HA
         simp only [w12_ActShuts.j1] at H
         by_cases c23 : x67_19 = true
         ·subst c23
          have H1 : (some false) = some r := by rw [if_pos rfl] at H; exact H
          clear H
          have H := H1
          clear H1
          obtain rfl := yY H
          go_wp2
          go_ret
          exact ⟨by first | rfl | (simp [errW_none, errW_some] <;> rfl) | (simp [*, errW_none, errW_some] <;> rfl), by repeat (first | (with_reducible first | exact HB.out | apply zJ | apply zD | apply zE | refine zI ?_ Z1.out) | exact HB.out)⟩
         ·replace c23 := yh.mpr c23
          subst c23
          have H1 : ((act_Table.f 2).bind fun bt484 => ((act_Gate.f kj19 bt484.1 l0 l1).bind fun bt488 => (if bt488.2 = 0 then (w12_ActShuts.j2 kj19 l0 l1 y477 t480 bt484.1 bt488.1 ((bt488.1.length : Int) != (l0.length : Int)) l2_0 l2_1 l2_2 a2_3 a2_4 a2_5) else (w12_ActShuts.j2 kj19 l0 l1 y477 t480 bt484.1 bt488.1 true l2_0 l2_1 l2_2 a2_3 a2_4 a2_5)))) = some r := by rw [if_neg (show ¬ (false = true) by decide)] at H; exact H
          clear H
          have H := H1
          clear H1
          replace H := yA.mp H
          obtain ⟨⟨t484, t485⟩, A240, H⟩ := H
          replace H : ((act_Gate.f kj19 t484 l0 l1).bind fun bt488 => (if bt488.2 = 0 then (w12_ActShuts.j2 kj19 l0 l1 y477 t480 t484 bt488.1 ((bt488.1.length : Int) != (l0.length : Int)) l2_0 l2_1 l2_2 a2_3 a2_4 a2_5) else (w12_ActShuts.j2 kj19 l0 l1 y477 t480 t484 bt488.1 true l2_0 l2_1 l2_2 a2_3 a2_4 a2_5))) = some r := H
          have A24 := zK A240
          clear A240
          replace H := yA.mp H
          obtain ⟨⟨t488, t489⟩, A250, H⟩ := H
          replace H : (if t489 = 0 then (w12_ActShuts.j2 kj19 l0 l1 y477 t480 t484 t488 ((t488.length : Int) != (l0.length : Int)) l2_0 l2_1 l2_2 a2_3 a2_4 a2_5) else (w12_ActShuts.j2 kj19 l0 l1 y477 t480 t484 t488 true l2_0 l2_1 l2_2 a2_3 a2_4 a2_5)) = some r := H
          have A25 := zK A250
          clear A250
          have HC26 := zK H
          clear H
          go_upto_region 13 with (first | ((with_reducible refine gate_callee (f := 11) rfl ?_); refine goesL_ (some 69) rfl rfl Try.func11 (by kernel_rfl) rfl #[.int .i64 2] rfl (by (try simp only [yH, yI, yJ]); first | done | rfl | (simp only [yG, yF]; rfl)) ?_; (with_reducible refine (act_Table.calls 2 t484 t485 _ A24.out).mono ?_); rintro e w27 ⟨v486, rfl, ho0, hb⟩; refine ⟨_, rfl, ?_⟩; have n0_ := zK (Kd.R_elder' (by (with_reducible repeat (first | apply zL | apply zM | apply zN)); exact HO_7.out) (Kd.R_base ho0) hb); have n1_ := zK (Kd.R_elder' (by (with_reducible repeat (first | apply zL | apply zM | apply zN)); exact HO_8.out) (Kd.R_base ho0) hb); have n2_ := zK (Kd.R_lower (Kd.R_new' (Kd.R_new' ho0 (Kd.R_lt (by (with_reducible repeat (first | apply zL | apply zM | apply zN)); exact HO_7.out))) (Kd.R_lt (by (with_reducible repeat (first | apply zL | apply zM | apply zN)); exact HO_8.out))) (yK (by repeat (first | (with_reducible first | exact HB.out | apply zJ | apply zD | apply zE | refine zI ?_ Z1.out) | exact HB.out)))); have n3_ := zK (zP (g := Z3) (o := .cells #[.slice A2_0 l2_0.length c2_0, .slice A2_1 l2_1.length c2_1, .slice A2_2 l2_2.length c2_2, .int .i64 a2_3, .int .i64 a2_4, .int .i64 a2_5] 36 (0, 0)) (by (with_reducible repeat (first | refine zF ?_ _ | refine zH ?_ | refine zG ?_ _)); exact Z0.out) hb); have n4_ := zK (yL (by repeat (first | (with_reducible first | exact HB.out | apply zJ | apply zD | apply zE | refine zI ?_ Z1.out) | exact HB.out)) hb); clear HO_7 HO_8 Z0 HB; have HO_7 := n0_; have HO_8 := n1_; have HO487 := n2_; have Z0 := n3_; have HB := n4_; clear n0_ n1_ n2_ n3_ n4_; (try clear hb); (try clear hb2); (try clear hk); (try clear hi); (try clear ho0); obtain ⟨Ao28, co28, eo28⟩ := Kd.R_slice HO487.out; subst eo28) | ((with_reducible refine gate_callee (f := 14) rfl ?_); refine goesL_ (some 76) rfl rfl Try.func14 (by kernel_rfl) rfl #[.slice Ao28 t484.length co28, .slice A0 l0.length c0, .slice A1 l1.length c1] rfl (by (try simp only [yH, yI, yJ]); first | done | rfl | (simp only [yG, yF]; rfl)) ?_; (with_reducible refine (act_Gate.calls kj19 _ _ t484 _ _ l0 _ _ l1 t488 t489 _ ?side1 ?side2 ?side3 ?side4 ?side5 ?side6 A25.out).mono ?_); (case side1 => repeat (first | exact (yM HO487.out).2.2 | (with_reducible refine yS ?_ _) | (with_reducible refine yT ?_ _) | (with_reducible refine yU ?_))); (case side2 => exact (yM HO487.out).2.1); (case side3 => repeat (first | exact (yc HR0.out HB.out) | (with_reducible refine yS ?_ _) | (with_reducible refine yT ?_ _) | (with_reducible refine yU ?_))); (case side4 => exact HC0.out); (case side5 => repeat (first | exact (yc HR1.out HB.out) | (with_reducible refine yS ?_ _) | (with_reducible refine yT ?_ _) | (with_reducible refine yU ?_))); (case side6 => exact HC1.out); rintro e w29 ⟨v490, rfl, ho0, hb⟩; refine ⟨_, rfl, ?_⟩; have n0_ := zK (Kd.R_elder' (by (with_reducible repeat (first | apply zL | apply zM | apply zN)); exact HO_7.out) (Kd.R_base ho0) hb); have n1_ := zK (Kd.R_elder' (by (with_reducible repeat (first | apply zL | apply zM | apply zN)); exact HO_8.out) (Kd.R_base ho0) hb); have n2_ := zK (Kd.R_elder' (by (with_reducible repeat (first | apply zL | apply zM | apply zN)); exact HO487.out) (Kd.R_base ho0) hb); have n3_ := zK (Kd.R_lower (Kd.R_new' (Kd.R_new' (Kd.R_new' ho0 (Kd.R_lt (by (with_reducible repeat (first | apply zL | apply zM | apply zN)); exact HO_7.out))) (Kd.R_lt (by (with_reducible repeat (first | apply zL | apply zM | apply zN)); exact HO_8.out))) (Kd.R_lt (by (with_reducible repeat (first | apply zL | apply zM | apply zN)); exact HO487.out))) (yK (by repeat (first | (with_reducible first | exact HB.out | apply zJ | apply zD | apply zE | refine zI ?_ Z1.out) | exact HB.out)))); have n4_ := zK (zP (g := Z3) (o := .cells #[.slice A2_0 l2_0.length c2_0, .slice A2_1 l2_1.length c2_1, .slice A2_2 l2_2.length c2_2, .int .i64 a2_3, .int .i64 a2_4, .int .i64 a2_5] 36 (0, 0)) (by (with_reducible repeat (first | refine zF ?_ _ | refine zH ?_ | refine zG ?_ _)); exact Z0.out) hb); have n5_ := zK (yL (by repeat (first | (with_reducible first | exact HB.out | apply zJ | apply zD | apply zE | refine zI ?_ Z1.out) | exact HB.out)) hb); clear HO_7 HO_8 HO487 Z0 HB; have HO_7 := n0_; have HO_8 := n1_; have HO487 := n2_; have HO491 := n3_; have Z0 := n4_; have HB := n5_; clear n0_ n1_ n2_ n3_ n4_ n5_; (try clear hb); (try clear hb2); (try clear hk); (try clear hi); (try clear ho0)))
          (try simp only [Act.put, zA, zB, zC])
          go_cut [87] (fun v87 wc => ∃ (kq : Nat) (x87_25 : Bool), v87 = .bool x87_25 ∧ Aside0 (w12_ActShuts.j2 kq l0 l1 y477 t480 t484 t488 x87_25 l2_0 l2_1 l2_2 a2_3 a2_4 a2_5 = some r) ∧ Aside0 (kq ≤ kj19) ∧ Aside0 (Kd.R (Kd.int .i8) 30 wc w.heap.size (fun k_ => some k_ ≠ (v482 : Value).ownBlock ∧ some k_ ≠ ((.slice Ao28 t484.length co28) : Value).ownBlock ∧ some k_ ≠ (v490 : Value).ownBlock) (.slice Ao13 y477.length co13) y477) ∧ Aside0 (Kd.R (Kd.int .i8) 30 wc w.heap.size (fun k_ => some k_ ≠ ((.slice Ao13 y477.length co13) : Value).ownBlock ∧ some k_ ≠ ((.slice Ao28 t484.length co28) : Value).ownBlock ∧ some k_ ≠ (v490 : Value).ownBlock) v482 t480) ∧ Aside0 (Kd.R (Kd.int .i8) 30 wc w.heap.size (fun k_ => some k_ ≠ ((.slice Ao13 y477.length co13) : Value).ownBlock ∧ some k_ ≠ (v482 : Value).ownBlock ∧ some k_ ≠ (v490 : Value).ownBlock) (.slice Ao28 t484.length co28) t484) ∧ Aside0 (Kd.R (Kd.int .i8) 30 wc w.heap.size (fun k_ => some k_ ≠ ((.slice Ao13 y477.length co13) : Value).ownBlock ∧ some k_ ≠ (v482 : Value).ownBlock ∧ some k_ ≠ ((.slice Ao28 t484.length co28) : Value).ownBlock) v490 t488) ∧ Aside0 (wc.heap[Z3]? = some (.cells #[(.slice A2_0 l2_0.length c2_0), (.slice A2_1 l2_1.length c2_1), (.slice A2_2 l2_2.length c2_2), .int .i64 a2_3, .int .i64 a2_4, .int .i64 a2_5] 36 (0, 0))) ∧ Aside0 (Below w.heap.size w wc))
          case first =>
           have H := HC26.out
           clear HC26
           by_cases c30 : t489 = 0
           ·rw [if_pos c30] at H
            have c30b0 : (t489 == 0) = true := beq_iff_eq.mpr c30
            have c30b1 : (t489 != 0) = false := bne_eq_false_iff_eq.mpr c30
            clear c30
            (first | rw [c30b0] | (simp only [i64_w, i32_w]; rw [c30b0]) | skip)
            have H' := zK H
            clear H
            obtain ⟨Ao31, co31, eo31⟩ := Kd.R_slice HO491.out
            subst eo31
            go_wp2
            go_meet
            case rel => exact ⟨_, (((t488.length : Int) != (l0.length : Int))), (by first | rfl | (simp; done) | (simp [*]; done)), H', ⟨by have := HJ7.out; have := HJ19.out; first | omega | exact yN _⟩, ⟨by (with_reducible repeat (first | apply zL | apply zM | apply zN)); exact yd HO_7.out (fun _ hk => ⟨hk.1.1, ⟨hk.1.2, hk.2⟩⟩)⟩, ⟨by (with_reducible repeat (first | apply zL | apply zM | apply zN)); exact yd HO_8.out (fun _ hk => ⟨hk.1.1, ⟨hk.1.2, hk.2⟩⟩)⟩, ⟨by (with_reducible repeat (first | apply zL | apply zM | apply zN)); exact yd HO487.out (fun _ hk => ⟨hk.1.1.2, ⟨hk.1.2, hk.2⟩⟩)⟩, ⟨by (with_reducible repeat (first | apply zL | apply zM | apply zN)); exact yd HO491.out (fun _ hk => ⟨hk.1.1.2, ⟨hk.1.2, hk.2⟩⟩)⟩, ⟨by (with_reducible repeat (first | refine zF ?_ _ | refine zH ?_ | refine zG ?_ _)); exact Z0.out⟩, ⟨by repeat (first | (with_reducible first | exact HB.out | apply zJ | apply zD | apply zE | refine zI ?_ Z1.out) | exact HB.out)⟩⟩
           ·rw [if_neg c30] at H
            have c30b0 : (t489 == 0) = false := beq_eq_false_iff_ne.mpr c30
            have c30b1 : (t489 != 0) = true := bne_iff_ne.mpr c30
            (first | rw [c30b0] | (simp only [i64_w, i32_w]; rw [c30b0]) | skip)
            have H' := zK H
            clear H
            go_wp2
            go_meet
            case rel => exact ⟨_, (true), (by first | rfl | (simp; done) | (simp [*]; done)), H', ⟨by have := HJ7.out; have := HJ19.out; first | omega | exact yN _⟩, ⟨by (with_reducible repeat (first | apply zL | apply zM | apply zN)); exact yd HO_7.out (fun _ hk => ⟨hk.1.1, ⟨hk.1.2, hk.2⟩⟩)⟩, ⟨by (with_reducible repeat (first | apply zL | apply zM | apply zN)); exact yd HO_8.out (fun _ hk => ⟨hk.1.1, ⟨hk.1.2, hk.2⟩⟩)⟩, ⟨by (with_reducible repeat (first | apply zL | apply zM | apply zN)); exact yd HO487.out (fun _ hk => ⟨hk.1.1.2, ⟨hk.1.2, hk.2⟩⟩)⟩, ⟨by (with_reducible repeat (first | apply zL | apply zM | apply zN)); exact yd HO491.out (fun _ hk => ⟨hk.1.1.2, ⟨hk.1.2, hk.2⟩⟩)⟩, ⟨by (with_reducible repeat (first | refine zF ?_ _ | refine zH ?_ | refine zG ?_ _)); exact Z0.out⟩, ⟨by repeat (first | (with_reducible first | exact HB.out | apply zJ | apply zD | apply zE | refine zI ?_ Z1.out) | exact HB.out)⟩⟩
          case rest =>
           clear HC26
           try clear c1
           try clear c2
           try clear p2
           try clear c3
           try clear c5
           try clear c6
           try clear c6b0
           try clear c6b1
           try clear c7
           try clear c10
           try clear c11
           try clear c14
           try clear c15
           try clear c15b0
           try clear c15b1
           try clear c16
           try clear c17
           try clear c17b0
           try clear c17b1
           try clear c19
           try clear c19b0
           try clear c19b1
           try clear c19b2
           try clear c21
           try clear c21b0
           try clear c21b1
           try clear c23
           try clear c30
           try clear c30b0
           try clear c30b1
           try clear p2
           obtain ⟨kq, x87_25, rfl, HA, HJ25, HO_7, HO_8, HO_10, HO_12, Z0, HB⟩ := hcut
           cases kq with
           | zero => exact absurd HA.out (by simp [w12_ActShuts.j2])
           | succ kj25 =>
            have H := HA.out
            clear HA
            simp only [w12_ActShuts.j2] at H
            by_cases c32 : x87_25 = true
            ·subst c32
             have H1 : (some false) = some r := by rw [if_pos rfl] at H; exact H
             clear H
             have H := H1
             clear H1
             obtain rfl := yY H
             go_wp2
             go_ret
             exact ⟨by first | rfl | (simp [errW_none, errW_some] <;> rfl) | (simp [*, errW_none, errW_some] <;> rfl), by repeat (first | (with_reducible first | exact HB.out | apply zJ | apply zD | apply zE | refine zI ?_ Z1.out) | exact HB.out)⟩
            ·replace c32 := yh.mpr c32
             subst c32
             have H1 : (w12_ActShuts.l0 kj25 l0 l1 y477 t480 t484 t488 (t480.length : Int) 0 l2_0 l2_1 l2_2 a2_3 a2_4 a2_5) = some r := by rw [if_neg (show ¬ (false = true) by decide)] at H; exact H
             clear H
             have H := H1
             clear H1
             have H' := zK H
             clear H
             obtain ⟨Ao33, co33, eo33⟩ := Kd.R_slice HO_8.out
             subst eo33
             go_wp2
             go_loopg [90] kj25 (fun kq v90 w' => ∃ (x90_4 : Int), v90 = .int .i64 x90_4 ∧ Aside0 (w12_ActShuts.l0 kq l0 l1 y477 t480 t484 t488 (t480.length : Int) x90_4 l2_0 l2_1 l2_2 a2_3 a2_4 a2_5 = some r) ∧ Aside0 (kq ≤ kj25) ∧ Aside0 (Kd.R (Kd.int .i8) 30 w' w.heap.size (fun k_ => some k_ ≠ ((.slice Ao33 t480.length co33) : Value).ownBlock ∧ some k_ ≠ ((.slice Ao28 t484.length co28) : Value).ownBlock ∧ some k_ ≠ (v490 : Value).ownBlock) (.slice Ao13 y477.length co13) y477) ∧ Aside0 (Kd.R (Kd.int .i8) 30 w' w.heap.size (fun k_ => some k_ ≠ ((.slice Ao13 y477.length co13) : Value).ownBlock ∧ some k_ ≠ ((.slice Ao28 t484.length co28) : Value).ownBlock ∧ some k_ ≠ (v490 : Value).ownBlock) (.slice Ao33 t480.length co33) t480) ∧ Aside0 (Kd.R (Kd.int .i8) 30 w' w.heap.size (fun k_ => some k_ ≠ ((.slice Ao13 y477.length co13) : Value).ownBlock ∧ some k_ ≠ ((.slice Ao33 t480.length co33) : Value).ownBlock ∧ some k_ ≠ (v490 : Value).ownBlock) (.slice Ao28 t484.length co28) t484) ∧ Aside0 (Kd.R (Kd.int .i8) 30 w' w.heap.size (fun k_ => some k_ ≠ ((.slice Ao13 y477.length co13) : Value).ownBlock ∧ some k_ ≠ ((.slice Ao33 t480.length co33) : Value).ownBlock ∧ some k_ ≠ ((.slice Ao28 t484.length co28) : Value).ownBlock) v490 t488) ∧ Aside0 (w'.heap[Z3]? = some (.cells #[(.slice A2_0 l2_0.length c2_0), (.slice A2_1 l2_1.length c2_1), (.slice A2_2 l2_2.length c2_2), .int .i64 a2_3, .int .i64 a2_4, .int .i64 a2_5] 36 (0, 0))) ∧ Aside0 (Below w.heap.size w w'))
             case atStart => exact ⟨(0), (by first | rfl | (simp; done) | (simp [*]; done)), H', ⟨yN _⟩, ⟨by (with_reducible repeat (first | apply zL | apply zM | apply zN)); exact HO_7.out⟩, ⟨by (with_reducible repeat (first | apply zL | apply zM | apply zN)); exact HO_8.out⟩, ⟨by (with_reducible repeat (first | apply zL | apply zM | apply zN)); exact HO_10.out⟩, ⟨by (with_reducible repeat (first | apply zL | apply zM | apply zN)); exact HO_12.out⟩, ⟨by (with_reducible repeat (first | refine zF ?_ _ | refine zH ?_ | refine zG ?_ _)); exact Z0.out⟩, ⟨by repeat (first | (with_reducible first | exact HB.out | apply zJ | apply zD | apply zE | refine zI ?_ Z1.out) | exact HB.out)⟩⟩
             case round =>
              clear H'
              try clear c1
              try clear c2
              try clear p2
              try clear c3
              try clear c5
              try clear c6
              try clear c6b0
              try clear c6b1
              try clear c7
              try clear c10
              try clear c11
              try clear c14
              try clear c15
              try clear c15b0
              try clear c15b1
              try clear c16
              try clear c17
              try clear c17b0
              try clear c17b1
              try clear c19
              try clear c19b0
              try clear c19b1
              try clear c19b2
              try clear c21
              try clear c21b0
              try clear c21b1
              try clear c23
              try clear c30
              try clear c30b0
              try clear c30b1
              try clear c32
              try clear p2
              obtain ⟨x90_4, rfl, HA, HK4, HO_7, HO_8, HO_10, HO_12, Z0, HB⟩ := hrel
              cases gk with
              | zero => exact absurd HA.out (by simp [w12_ActShuts.l0])
              | succ k4 =>
               have H := HA.out
               clear HA
               simp only [w12_ActShuts.l0] at H
               by_cases c34 : x90_4 < (t480.length : Int)
               ·rw [if_pos c34] at H
                have c34b0 : decide (x90_4 < (t480.length : Int)) = true := yC c34
                clear c34
                by_cases c35 : 0 ≤ x90_4
                ·rw [if_pos c35] at H
                 have c35b0 := yg c35
                 have c35b1 : decide (0 ≤ x90_4) = true := yC c35
                 clear c35
                 by_cases c36 : x90_4 ≤ (wrap64 (x90_4 + 1))
                 ·rw [if_pos c36] at H
                  have c36b0 := yg c36
                  have c36b1 : decide (x90_4 ≤ (wrap64 (x90_4 + 1))) = true := yC c36
                  by_cases c37 : (wrap64 (x90_4 + 1)) ≤ (l0.length : Int)
                  ·rw [if_pos c37] at H
                   have c37b0 := yg c37
                   have c37b1 : decide ((wrap64 (x90_4 + 1)) ≤ (l0.length : Int)) = true := yC c37
                   have c38b0 := yg (yB (by first | (with_reducible assumption) | assumption) : 0 ≤ x90_4)
                   have c39b0 := yg (yB (by first | (with_reducible assumption) | assumption) : x90_4 ≤ (wrap64 (x90_4 + 1)))
                   by_cases c40 : (wrap64 (x90_4 + 1)) ≤ (l1.length : Int)
                   ·rw [if_pos c40] at H
                    have c40b0 := yg c40
                    have c40b1 : decide ((wrap64 (x90_4 + 1)) ≤ (l1.length : Int)) = true := yC c40
                    replace H := yA.mp H
                    obtain ⟨⟨t494, t495⟩, A410, H⟩ := H
                    replace H : (if x90_4 < (t480.length : Int) then (if (rd t480 x90_4) = 0 then (if t495 = 0 then (if (t494.length : Int) = 1 then (if 0 < (t494.length : Int) then (if x90_4 < (t488.length : Int) then (if (rd t494 0) = (rd t488 x90_4) then (w12_ActShuts.l0 k4 l0 l1 y477 t480 t484 t488 (t480.length : Int) (wrap64 (x90_4 + 1)) l2_0 l2_1 l2_2 a2_3 a2_4 a2_5) else (some false)) else (none)) else (none)) else (some false)) else (some false)) else (some false)) else (none)) = some r := H
                    have A41 := zK A410
                    clear A410
                    by_cases c42 : x90_4 < (t480.length : Int)
                    ·rw [if_pos c42] at H
                     have c42b0 : decide (x90_4 < (t480.length : Int)) = true := yC c42
                     clear c42
                     by_cases c43 : (rd t480 x90_4) = 0
                     ·rw [if_pos c43] at H
                      have c43b0 : ((rd t480 x90_4) == 0) = true := beq_iff_eq.mpr c43
                      have c43b1 : ((rd t480 x90_4) != 0) = false := bne_eq_false_iff_eq.mpr c43
                      clear c43
                      by_cases c44 : t495 = 0
                      ·rw [if_pos c44] at H
                       have c44b0 : (t495 == 0) = true := beq_iff_eq.mpr c44
                       have c44b1 : (t495 != 0) = false := bne_eq_false_iff_eq.mpr c44
                       clear c44
                       by_cases c45 : (t494.length : Int) = 1
                       ·rw [if_pos c45] at H
                        have c45b0 : ((t494.length : Int) == 1) = true := beq_iff_eq.mpr c45
                        have c45b1 : ((t494.length : Int) != 1) = false := bne_eq_false_iff_eq.mpr c45
                        clear c45
                        by_cases c46 : 0 < (t494.length : Int)
                        ·rw [if_pos c46] at H
                         have c46b0 : decide (0 < (t494.length : Int)) = true := yC c46
                         have c46b1 : decide (0 < t494.length) = true := yC (by omega)
                         clear c46
                         by_cases c47 : x90_4 < (t488.length : Int)
                         ·rw [if_pos c47] at H
                          have c47b0 : decide (x90_4 < (t488.length : Int)) = true := yC c47
                          clear c47
                          by_cases c48 : (rd t494 0) = (rd t488 x90_4)
                          ·rw [if_pos c48] at H
                           have c48b0 : ((rd t494 0) == (rd t488 x90_4)) = true := beq_iff_eq.mpr c48
                           have c48b1 : ((rd t494 0) != (rd t488 x90_4)) = false := bne_eq_false_iff_eq.mpr c48
                           clear c48
                           have H' := zK H
                           clear H
                           try go_wp2
                           have n0_ := zK (zN HO_7.out)
                           have n1_ := zK (zN HO_8.out)
                           have n2_ := zK (zN HO_10.out)
                           have n3_ := zK (zN HO_12.out)
                           have n4_ := zK (zH Z0.out)
                           have n5_ := zK (zE HB.out)
                           clear HO_7 HO_8 HO_10 HO_12 Z0 HB
                           have HO_7 := n0_; have HO_8 := n1_; have HO_10 := n2_; have HO_12 := n3_; have Z0 := n4_; have HB := n5_
                           clear n0_ n1_ n2_ n3_ n4_ n5_
                           obtain ⟨i050, hi050, _, hsz50, _⟩ := yj info30
                           obtain ⟨A50, hcut50, hA50, hC50⟩ := print_mid_of (P := Try.prog) (Value.int .i8) 0 23 30 .i64 .i64 Try.underlying23 hi050 hsz50 A0 c0 l0 x90_4 (wrap64 (x90_4 + 1)) (yB (by first | (with_reducible assumption) | assumption)) (by first | omega | exact yB (by first | (with_reducible assumption) | assumption)) (yB (by first | (with_reducible assumption) | assumption)) HC0.out
                           have HR492 := zK (Kd.C_of_reads (h1 := fun _ => rfl) (hA50 _ (Kd.reads_of_C HR0.out)))
                           have HC492 := zK hC50
                           clear hA50 hC50 hi050 hsz50
                           obtain ⟨i051, hi051, _, hsz51, _⟩ := yj info30
                           obtain ⟨A51, hcut51, hA51, hC51⟩ := print_mid_of (P := Try.prog) (Value.int .i8) 0 23 30 .i64 .i64 Try.underlying23 hi051 hsz51 A1 c1 l1 x90_4 (wrap64 (x90_4 + 1)) (yB (by first | (with_reducible assumption) | assumption)) (by first | omega | exact yB (by first | (with_reducible assumption) | assumption)) (yB (by first | (with_reducible assumption) | assumption)) HC1.out
                           have HR493 := zK (Kd.C_of_reads (h1 := fun _ => rfl) (hA51 _ (Kd.reads_of_C HR1.out)))
                           have HC493 := zK hC51
                           clear hA51 hC51 hi051 hsz51
                           refine start_ (n := 17) (S := fun w' => True) (ds := []) w12_ActShuts.b0 (by kernel_rfl) rfl rfl trivial (fun hHeld => ?_); refine with_tabW w12_ActShuts.tab18 w12_ActShuts.bits18 (fun HT_ HW_ => ?_)
                           generalize wr.drew = w49 at HO_7 HO_8 HO_10 HO_12 Z0 HB HR492 HR493 hHeld ⊢
                           refine pure_ (i := 0) (N := some 94) (v := ?_) (a' := ?_) w12_ActShuts.b1 rfl rfl (any_of HT_.out (by kernel_rfl)) (fun _ _ _ h => h) (Or.inl ⟨by rfl, ?_⟩) ?_ ?_
                           rotate_left
                           ·intro w'
                            go_simp
                            with_reducible rfl
                           rotate_left
                           ·simp only [Act.put, zA, zB, zC, i64_w, i32_w]
                            rfl
                           refine pure_ (i := 1) (N := some 95) (v := ?_) (a' := ?_) w12_ActShuts.b2 rfl rfl (any_of HT_.out (by kernel_rfl)) (fun _ _ _ h => h) (Or.inl ⟨by rfl, ?_⟩) ?_ ?_
                           rotate_left
                           ·intro w'
                            go_simp
                            with_reducible rfl
                           rotate_left
                           ·simp only [Act.put, zA, zB, zC, i64_w, i32_w]
                            rfl
                           refine pure_ (i := 2) (N := some 96) (v := ?_) (a' := ?_) w12_ActShuts.b3 rfl rfl (any_of HT_.out (by kernel_rfl)) (fun _ _ _ h => h) (Or.inl ⟨by rfl, ?_⟩) ?_ ?_
                           rotate_left
                           ·intro w'
                            go_simp
                            with_reducible rfl
                           rotate_left
                           ·simp only [Act.put, zA, zB, zC, i64_w, i32_w]
                            rfl
                           refine pure_ (i := 3) (N := some 97) (v := ?_) (a' := ?_) w12_ActShuts.b4 rfl rfl (any_of HT_.out (by kernel_rfl)) (fun _ _ _ h => h) (Or.inl ⟨by rfl, ?_⟩) ?_ ?_
                           rotate_left
                           ·intro w'
                            go_simp
                            with_reducible rfl
                           rotate_left
                           ·simp only [Act.put, zA, zB, zC, i64_w, i32_w]
                            rfl
                           refine pure_ (i := 4) (N := some 98) (v := ?_) (a' := ?_) w12_ActShuts.b5 rfl rfl (any_of HT_.out (by kernel_rfl)) (fun _ _ _ h => h) (Or.inl ⟨by rfl, ?_⟩) ?_ ?_
                           rotate_left
                           ·intro w'
                            go_simp
                            with_reducible rfl
                           rotate_left
                           ·simp only [Act.put, zA, zB, zC, i64_w, i32_w]
                            rfl
                           refine pure_ (i := 5) (N := some 99) (v := ?_) (a' := ?_) w12_ActShuts.b6 rfl rfl (any_of HT_.out (by kernel_rfl)) (fun _ _ _ h => h) (Or.inl ⟨by rfl, ?_⟩) ?_ ?_
                           rotate_left
                           ·intro w'
                            go_simp
                            with_reducible rfl
                           rotate_left
                           ·simp only [Act.put, zA, zB, zC, i64_w, i32_w]
                            rfl
                           refine pure_ (i := 6) (N := some 100) (v := ?_) (a' := ?_) w12_ActShuts.b7 rfl rfl (any_of HT_.out (by kernel_rfl)) (fun _ _ _ h => h) (Or.inl ⟨by rfl, ?_⟩) ?_ ?_
                           rotate_left
                           ·intro w'
                            go_simp
                            with_reducible rfl
                           rotate_left
                           ·simp only [Act.put, zA, zB, zC, i64_w, i32_w]
                            rfl
                           refine pure_ (i := 7) (N := some 101) (v := ?_) (a' := ?_) w12_ActShuts.b8 rfl rfl (any_of HT_.out (by kernel_rfl)) (fun _ _ _ h => h) (Or.inl ⟨by rfl, ?_⟩) ?_ ?_
                           rotate_left
                           ·intro w'
                            go_simp
                            with_reducible rfl
                           rotate_left
                           ·simp only [Act.put, zA, zB, zC, i64_w, i32_w]
                            rfl
                           refine pure_ (i := 8) (N := some 102) (v := ?_) (a' := ?_) w12_ActShuts.b9 rfl rfl (any_of HT_.out (by kernel_rfl)) (fun _ _ _ h => h) (Or.inl ⟨by rfl, ?_⟩) ?_ ?_
                           rotate_left
                           ·intro w'
                            go_simp
                            with_reducible rfl
                           rotate_left
                           ·simp only [Act.put, zA, zB, zC, i64_w, i32_w]
                            rfl
                           refine pure_ (i := 9) (N := some 103) (v := ?_) (a' := ?_) w12_ActShuts.b10 rfl rfl (any_of HT_.out (by kernel_rfl)) (fun _ _ _ h => h) (Or.inl ⟨by rfl, ?_⟩) ?_ ?_
                           rotate_left
                           ·intro w'
                            go_simp
                            with_reducible rfl
                           rotate_left
                           ·simp only [Act.put, zA, zB, zC, i64_w, i32_w]
                            rfl
                           refine pure_ (i := 10) (N := some 104) (v := ?_) (a' := ?_) w12_ActShuts.b11 rfl rfl (any_of HT_.out (by kernel_rfl)) (fun _ _ _ h => h) (Or.inl ⟨by rfl, ?_⟩) ?_ ?_
                           rotate_left
                           ·intro w'
                            go_simp
                            with_reducible rfl
                           rotate_left
                           ·simp only [Act.put, zA, zB, zC, i64_w, i32_w]
                            rfl
                           refine one_ (i := 11) (N := some 105) w12_ActShuts.b12 rfl rfl (one_of HT_.out (by kernel_rfl)) (by decide) (fun K hK => ?_)
                           refine goes_ Try.func14 (by kernel_rfl) rfl #[.slice Ao28 t484.length co28, .slice A50 ((l0.take ((wrap64 (x90_4 + 1)) : Int).toNat).drop (x90_4 : Int).toNat).length (c0 - x90_4.toNat), .slice A51 ((l1.take ((wrap64 (x90_4 + 1)) : Int).toNat).drop (x90_4 : Int).toNat).length (c1 - x90_4.toNat)] (by rfl) rfl rfl (by (try simp only [yH, yI, yJ]); first | done | (rw [show ((l0.take ((wrap64 (x90_4 + 1)) : Int).toNat).drop (x90_4 : Int).toNat).length = ((wrap64 (x90_4 + 1)).toNat - x90_4.toNat) from (by rw [yG, yF]; have h_ : ((wrap64 (x90_4 + 1)) : Int) ≤ (l0.length : Int) := yB (by first | (with_reducible assumption) | assumption); omega), show ((l1.take ((wrap64 (x90_4 + 1)) : Int).toNat).drop (x90_4 : Int).toNat).length = ((wrap64 (x90_4 + 1)).toNat - x90_4.toNat) from (by rw [yG, yF]; have h_ : ((wrap64 (x90_4 + 1)) : Int) ≤ (l1.length : Int) := yB (by first | (with_reducible assumption) | assumption); omega)] <;> rfl) | (rw [show ((l0.take ((wrap64 (x90_4 + 1)) : Int).toNat).drop (x90_4 : Int).toNat).length = ((wrap64 (x90_4 + 1)).toNat - x90_4.toNat) from (by rw [yG, yF]; have h_ : ((wrap64 (x90_4 + 1)) : Int) ≤ (l0.length : Int) := yB (by first | (with_reducible assumption) | assumption); omega)] <;> rfl) | (rw [show ((l1.take ((wrap64 (x90_4 + 1)) : Int).toNat).drop (x90_4 : Int).toNat).length = ((wrap64 (x90_4 + 1)).toNat - x90_4.toNat) from (by rw [yG, yF]; have h_ : ((wrap64 (x90_4 + 1)) : Int) ≤ (l1.length : Int) := yB (by first | (with_reducible assumption) | assumption); omega)] <;> rfl) | rfl | (simp only [yG, yF]; rfl)) ?_
                           with_reducible refine (act_Gate.calls k4 _ _ t484 _ _ ((l0.take ((wrap64 (x90_4 + 1)) : Int).toNat).drop (x90_4 : Int).toNat) _ _ ((l1.take ((wrap64 (x90_4 + 1)) : Int).toNat).drop (x90_4 : Int).toNat) t494 t495 _ ?side1 ?side2 ?side3 ?side4 ?side5 ?side6 A41.out).mono ?_
                           (case side1 => repeat (first | exact (yM HO_10.out).2.2 | (with_reducible refine yS ?_ _) | (with_reducible refine yT ?_ _) | (with_reducible refine yU ?_)))
                           (case side2 => exact (yM HO_10.out).2.1)
                           (case side3 => repeat (first | exact (yc HR492.out HB.out) | (with_reducible refine yS ?_ _) | (with_reducible refine yT ?_ _) | (with_reducible refine yU ?_)))
                           (case side4 => exact HC492.out)
                           (case side5 => repeat (first | exact (yc HR493.out HB.out) | (with_reducible refine yS ?_ _) | (with_reducible refine yT ?_ _) | (with_reducible refine yU ?_)))
                           (case side6 => exact HC493.out)
                           rintro e w52 ⟨v496, rfl, ho0, hb⟩
                           refine ⟨_, rfl, ?_⟩
                           have n0_ := zK (Kd.R_elder' (by (with_reducible repeat (first | apply zL | apply zM | apply zN)); exact HO_7.out) (Kd.R_base ho0) hb)
                           have n1_ := zK (Kd.R_elder' (by (with_reducible repeat (first | apply zL | apply zM | apply zN)); exact HO_8.out) (Kd.R_base ho0) hb)
                           have n2_ := zK (Kd.R_elder' (by (with_reducible repeat (first | apply zL | apply zM | apply zN)); exact HO_10.out) (Kd.R_base ho0) hb)
                           have n3_ := zK (Kd.R_elder' (by (with_reducible repeat (first | apply zL | apply zM | apply zN)); exact HO_12.out) (Kd.R_base ho0) hb)
                           have n4_ := zK (Kd.R_lower (Kd.R_new' (Kd.R_new' (Kd.R_new' (Kd.R_new' ho0 (Kd.R_lt (by (with_reducible repeat (first | apply zL | apply zM | apply zN)); exact HO_7.out))) (Kd.R_lt (by (with_reducible repeat (first | apply zL | apply zM | apply zN)); exact HO_8.out))) (Kd.R_lt (by (with_reducible repeat (first | apply zL | apply zM | apply zN)); exact HO_10.out))) (Kd.R_lt (by (with_reducible repeat (first | apply zL | apply zM | apply zN)); exact HO_12.out))) (yK (by repeat (first | (with_reducible first | exact HB.out | apply zJ | apply zD | apply zE | refine zI ?_ Z1.out) | exact HB.out))))
                           have n5_ := zK (zP (g := Z3) (o := .cells #[.slice A2_0 l2_0.length c2_0, .slice A2_1 l2_1.length c2_1, .slice A2_2 l2_2.length c2_2, .int .i64 a2_3, .int .i64 a2_4, .int .i64 a2_5] 36 (0, 0)) (by (with_reducible repeat (first | refine zF ?_ _ | refine zH ?_ | refine zG ?_ _)); exact Z0.out) hb)
                           have n6_ := zK (yL (by repeat (first | (with_reducible first | exact HB.out | apply zJ | apply zD | apply zE | refine zI ?_ Z1.out) | exact HB.out)) hb)
                           clear HO_7 HO_8 HO_10 HO_12 Z0 HB
                           have HO_7 := n0_; have HO_8 := n1_; have HO_10 := n2_; have HO_12 := n3_; have HO497 := n4_; have Z0 := n5_; have HB := n6_
                           clear n0_ n1_ n2_ n3_ n4_ n5_ n6_
                           (try clear hb)
                           (try clear hb2)
                           (try clear hk)
                           (try clear hi)
                           (try clear ho0)
                           refine hK.out _ _ trivial (fun hHeld => ?_)
                           clear hK K
                           refine norm_ (a' := ?_) ?_ ?_
                           rotate_left
                           ·show Act.put _ (some 105) _ = _
                            simp only [Act.put, zA, zB, zC, i64_w, i32_w]
                            rfl
                           refine pure_ (i := 12) (N := some 93) (v := ?_) (a' := ?_) w12_ActShuts.b13 rfl rfl (any_of HT_.out (by kernel_rfl)) (fun _ _ _ h => h) (Or.inl ⟨by rfl, ?_⟩) ?_ ?_
                           rotate_left
                           ·intro w'
                            go_simp
                            with_reducible rfl
                           rotate_left
                           ·simp only [Act.put, zA, zB, zC, i64_w, i32_w]
                            rfl
                           refine pure_ (i := 13) (N := some 106) (v := ?_) (a' := ?_) w12_ActShuts.b14 rfl rfl (any_of HT_.out (by kernel_rfl)) (fun _ _ _ h => h) (Or.inl ⟨by rfl, ?_⟩) ?_ ?_
                           rotate_left
                           ·intro w'
                            go_simp
                            with_reducible rfl
                           rotate_left
                           ·simp only [Act.put, zA, zB, zC, i64_w, i32_w]
                            rfl
                           refine pure_ (i := 14) (N := some 107) (v := ?_) (a' := ?_) w12_ActShuts.b15 rfl rfl (any_of HT_.out (by kernel_rfl)) (fun _ _ _ h => h) (Or.inl ⟨by rfl, ?_⟩) ?_ ?_
                           rotate_left
                           ·intro w'
                            go_simp
                            with_reducible rfl
                           rotate_left
                           ·simp only [Act.put, zA, zB, zC, i64_w, i32_w]
                            rfl
                           refine pure_ (i := 15) (N := some 15) (v := ?_) (a' := ?_) w12_ActShuts.b16 rfl rfl (any_of HT_.out (by kernel_rfl)) (fun _ _ _ h => h) (Or.inl ⟨by rfl, ?_⟩) ?_ ?_
                           rotate_left
                           ·intro w'
                            go_simp
                            with_reducible rfl
                           rotate_left
                           ·simp only [Act.put, zA, zB, zC, i64_w, i32_w]
                            rfl
                           refine pure_ (i := 16) (N := some 16) (v := ?_) (a' := ?_) w12_ActShuts.b17 rfl rfl (any_of HT_.out (by kernel_rfl)) (fun _ _ _ h => h) (Or.inl ⟨by rfl, ?_⟩) ?_ ?_
                           rotate_left
                           ·intro w'
                            go_simp
                            with_reducible rfl
                           rotate_left
                           ·simp only [Act.put, zA, zB, zC, i64_w, i32_w]
                            rfl
                           refine done_ (done_of HT_.out (by kernel_rfl)) ?_
                           try go_wp2
                           have n0_ := zK (zN HO_7.out)
                           have n1_ := zK (zN HO_8.out)
                           have n2_ := zK (zN HO_10.out)
                           have n3_ := zK (zN HO_12.out)
                           have n4_ := zK (zN HO497.out)
                           have n5_ := zK (zH Z0.out)
                           have n6_ := zK (zE HB.out)
                           clear HO_7 HO_8 HO_10 HO_12 HO497 Z0 HB
                           have HO_7 := n0_; have HO_8 := n1_; have HO_10 := n2_; have HO_12 := n3_; have HO497 := n4_; have Z0 := n5_; have HB := n6_
                           clear n0_ n1_ n2_ n3_ n4_ n5_ n6_
                           have p498 : 0 ≤ (x90_4 : Int) := yB (by first | (with_reducible assumption) | assumption)
                           have q498 : x90_4 < (t480.length : Int) := yB (by first | (with_reducible assumption) | assumption)
                           (try (obtain ⟨Ai498, ci498, ei498⟩ := Kd.R_slice HO_8.out; subst ei498))
                           obtain ⟨ad498, e498, hx498_0⟩ := Kd.at_int (yM HO_8.out).2.2 x90_4 p498 q498
                           cases e498
                           replace p498 := yg p498
                           replace q498 := yg q498
                           obtain ⟨Ao54, co54, eo54⟩ := Kd.R_slice HO497.out
                           (first | subst eo54 | (injection eo54 with f1_ f2_ f3_; have f4_ := f1_.symm; have f5_ := f3_.symm; clear f1_ f2_ f3_; subst f4_; subst f5_))
                           have p499 : 0 ≤ (0 : Int) := (by omega)
                           have q499 : 0 < (t494.length : Int) := yB (by first | (with_reducible assumption) | assumption)
                           obtain ⟨ad499, e499, hx499_0⟩ := Kd.at_int (yM HO497.out).2.2 0 p499 q499
                           cases e499
                           have qi499 : (0 < t494.length) = True := yg (by omega)
                           (try rw [show ((0 : Int)).toNat = 0 from rfl] at hx499_0)
                           (try rw [Addr.add_zero'] at hx499_0)
                           replace p499 := yg p499
                           replace q499 := yg q499
                           obtain ⟨Ao55, co55, eo55⟩ := Kd.R_slice HO_12.out
                           (first | subst eo55 | (injection eo55 with f1_ f2_ f3_; have f4_ := f1_.symm; have f5_ := f3_.symm; clear f1_ f2_ f3_; subst f4_; subst f5_))
                           have p500 : 0 ≤ (x90_4 : Int) := yB (by first | (with_reducible assumption) | assumption)
                           have q500 : x90_4 < (t488.length : Int) := yB (by first | (with_reducible assumption) | assumption)
                           (try (obtain ⟨Ai500, ci500, ei500⟩ := Kd.R_slice HO_12.out; subst ei500))
                           obtain ⟨ad500, e500, hx500_0⟩ := Kd.at_int (yM HO_12.out).2.2 x90_4 p500 q500
                           cases e500
                           replace p500 := yg p500
                           replace q500 := yg q500
                           refine start_ (n := 24) (S := fun w' => w'.cell? (ad498.add (x90_4).toNat) = some (.int .i8 (rd t480 x90_4)) ∧ w'.cell? ad499 = some (.int .i8 (rd t494 0)) ∧ w'.cell? (ad500.add (x90_4).toNat) = some (.int .i8 (rd t488 x90_4))) (ds := []) w12_ActShuts.b18 (by kernel_rfl) rfl rfl ⟨hx498_0, hx499_0, hx500_0⟩ (fun hHeld => ?_); refine with_tabW w12_ActShuts.tab19 w12_ActShuts.bits19 (fun HT_ HW_ => ?_)
                           generalize w52.drew = w53 at HO_7 HO_8 HO_10 HO_12 HO497 Z0 HB hx498_0 hx499_0 hx500_0 hHeld ⊢
                           refine pure_ (i := 0) (N := some 108) (v := ?_) (a' := ?_) w12_ActShuts.b19 rfl rfl (any_of HT_.out (by kernel_rfl)) (fun _ _ _ h => h) (Or.inl ⟨by rfl, ?_⟩) ?_ ?_
                           rotate_left
                           ·intro w'
                            go_simp
                            with_reducible rfl
                           rotate_left
                           ·simp only [Act.put, zA, zB, zC, i64_w, i32_w]
                            rfl
                           refine pure_ (i := 1) (N := some 109) (v := ?_) (a' := ?_) w12_ActShuts.b20 rfl rfl (any_of HT_.out (by kernel_rfl)) (fun _ _ _ h => h) (Or.inl ⟨by rfl, ?_⟩) ?_ ?_
                           rotate_left
                           ·intro w'
                            go_simp
                            with_reducible rfl
                           rotate_left
                           ·simp only [Act.put, zA, zB, zC, i64_w, i32_w]
                            rfl
                           refine pure_ (i := 2) (N := some 110) (v := ?_) (a' := ?_) w12_ActShuts.b21 rfl rfl (any_of HT_.out (by kernel_rfl)) (fun _ _ _ h => h) (Or.inl ⟨by rfl, ?_⟩) ?_ ?_
                           rotate_left
                           ·intro w'
                            go_simp
                            with_reducible rfl
                           rotate_left
                           ·simp only [Act.put, zA, zB, zC, i64_w, i32_w]
                            rfl
                           refine take_ (i := 3) (N := some 111) (v := ?_) (a' := ?_) w12_ActShuts.b22 rfl rfl (take_ofW HT_.out HW_.out (by kernel_rfl)) (fun _ _ _ h => h) (Or.inl ⟨by rfl, ?_⟩) hHeld ?_ ?_
                           rotate_left
                           ·rintro w' ⟨s0, s1, s2⟩
                            go_simp
                            with_reducible rfl
                           rotate_left
                           ·simp only [Act.put, zA, zB, zC, i64_w, i32_w]
                            rfl
                           refine pure_ (i := 4) (N := some 112) (v := ?_) (a' := ?_) w12_ActShuts.b23 rfl rfl (any_of HT_.out (by kernel_rfl)) (fun _ _ _ h => h) (Or.inl ⟨by rfl, ?_⟩) ?_ ?_
                           rotate_left
                           ·intro w'
                            go_simp
                            with_reducible rfl
                           rotate_left
                           ·simp only [Act.put, zA, zB, zC, i64_w, i32_w]
                            rfl
                           refine pure_ (i := 5) (N := some 113) (v := ?_) (a' := ?_) w12_ActShuts.b24 rfl rfl (any_of HT_.out (by kernel_rfl)) (fun _ _ _ h => h) (Or.inl ⟨by rfl, ?_⟩) ?_ ?_
                           rotate_left
                           ·intro w'
                            go_simp
                            with_reducible rfl
                           rotate_left
                           ·simp only [Act.put, zA, zB, zC, i64_w, i32_w]
                            rfl
                           refine pure_ (i := 6) (N := some 114) (v := ?_) (a' := ?_) w12_ActShuts.b25 rfl rfl (any_of HT_.out (by kernel_rfl)) (fun _ _ _ h => h) (Or.inl ⟨by rfl, ?_⟩) ?_ ?_
                           rotate_left
                           ·intro w'
                            go_simp
                            with_reducible rfl
                           rotate_left
                           ·simp only [Act.put, zA, zB, zC, i64_w, i32_w]
                            rfl
                           refine pure_ (i := 7) (N := some 115) (v := ?_) (a' := ?_) w12_ActShuts.b26 rfl rfl (any_of HT_.out (by kernel_rfl)) (fun _ _ _ h => h) (Or.inl ⟨by rfl, ?_⟩) ?_ ?_
                           rotate_left
                           ·intro w'
                            go_simp
                            with_reducible rfl
                           rotate_left
                           ·simp only [Act.put, zA, zB, zC, i64_w, i32_w]
                            rfl
                           refine pure_ (i := 8) (N := some 116) (v := ?_) (a' := ?_) w12_ActShuts.b27 rfl rfl (any_of HT_.out (by kernel_rfl)) (fun _ _ _ h => h) (Or.inl ⟨by rfl, ?_⟩) ?_ ?_
                           rotate_left
                           ·intro w'
                            go_simp
                            with_reducible rfl
                           rotate_left
                           ·simp only [Act.put, zA, zB, zC, i64_w, i32_w]
                            rfl
                           refine pure_ (i := 9) (N := some 117) (v := ?_) (a' := ?_) w12_ActShuts.b28 rfl rfl (any_of HT_.out (by kernel_rfl)) (fun _ _ _ h => h) (Or.inl ⟨by rfl, ?_⟩) ?_ ?_
                           rotate_left
                           ·intro w'
                            go_simp
                            with_reducible rfl
                           rotate_left
                           ·simp only [Act.put, zA, zB, zC, i64_w, i32_w]
                            rfl
                           refine pure_ (i := 10) (N := some 118) (v := ?_) (a' := ?_) w12_ActShuts.b29 rfl rfl (any_of HT_.out (by kernel_rfl)) (fun _ _ _ h => h) (Or.inl ⟨by rfl, ?_⟩) ?_ ?_
                           rotate_left
                           ·intro w'
                            go_simp
                            with_reducible rfl
                           rotate_left
                           ·simp only [Act.put, zA, zB, zC, i64_w, i32_w]
                            rfl
                           refine pure_ (i := 11) (N := some 119) (v := ?_) (a' := ?_) w12_ActShuts.b30 rfl rfl (any_of HT_.out (by kernel_rfl)) (fun _ _ _ h => h) (Or.inl ⟨by rfl, ?_⟩) ?_ ?_
                           rotate_left
                           ·intro w'
                            go_simp
                            with_reducible rfl
                           rotate_left
                           ·simp only [Act.put, zA, zB, zC, i64_w, i32_w]
                            rfl
                           refine pure_ (i := 12) (N := some 120) (v := ?_) (a' := ?_) w12_ActShuts.b31 rfl rfl (any_of HT_.out (by kernel_rfl)) (fun _ _ _ h => h) (Or.inl ⟨by rfl, ?_⟩) ?_ ?_
                           rotate_left
                           ·intro w'
                            go_simp
                            with_reducible rfl
                           rotate_left
                           ·simp only [Act.put, zA, zB, zC, i64_w, i32_w]
                            rfl
                           refine pure_ (i := 13) (N := some 121) (v := ?_) (a' := ?_) w12_ActShuts.b32 rfl rfl (any_of HT_.out (by kernel_rfl)) (fun _ _ _ h => h) (Or.inl ⟨by rfl, ?_⟩) ?_ ?_
                           rotate_left
                           ·intro w'
                            go_simp
                            with_reducible rfl
                           rotate_left
                           ·simp only [Act.put, zA, zB, zC, i64_w, i32_w]
                            rfl
                           refine pure_ (i := 14) (N := some 122) (v := ?_) (a' := ?_) w12_ActShuts.b33 rfl rfl (any_of HT_.out (by kernel_rfl)) (fun _ _ _ h => h) (Or.inl ⟨by rfl, ?_⟩) ?_ ?_
                           rotate_left
                           ·intro w'
                            go_simp
                            with_reducible rfl
                           rotate_left
                           ·simp only [Act.put, zA, zB, zC, i64_w, i32_w]
                            rfl
                           refine pure_ (i := 15) (N := some 123) (v := ?_) (a' := ?_) w12_ActShuts.b34 rfl rfl (any_of HT_.out (by kernel_rfl)) (fun _ _ _ h => h) (Or.inl ⟨by rfl, ?_⟩) ?_ ?_
                           rotate_left
                           ·intro w'
                            go_simp
                            with_reducible rfl
                           rotate_left
                           ·simp only [Act.put, zA, zB, zC, i64_w, i32_w]
                            rfl
                           refine pure_ (i := 16) (N := some 124) (v := ?_) (a' := ?_) w12_ActShuts.b35 rfl rfl (any_of HT_.out (by kernel_rfl)) (fun _ _ _ h => h) (Or.inl ⟨by rfl, ?_⟩) ?_ ?_
                           rotate_left
                           ·intro w'
                            go_simp
                            with_reducible rfl
                           rotate_left
                           ·simp only [Act.put, zA, zB, zC, i64_w, i32_w]
                            rfl
                           refine pure_ (i := 18) (N := some 126) (v := ?_) (a' := ?_) w12_ActShuts.b36 rfl rfl (any_of HT_.out (by kernel_rfl)) (fun _ _ _ h => h) (Or.inl ⟨by rfl, ?_⟩) ?_ ?_
                           rotate_left
                           ·intro w'
                            go_simp
                            with_reducible rfl
                           rotate_left
                           ·simp only [Act.put, zA, zB, zC, i64_w, i32_w]
                            rfl
                           refine pure_ (i := 19) (N := some 127) (v := ?_) (a' := ?_) w12_ActShuts.b37 rfl rfl (any_of HT_.out (by kernel_rfl)) (fun _ _ _ h => h) (Or.inl ⟨by rfl, ?_⟩) ?_ ?_
                           rotate_left
                           ·intro w'
                            go_simp
                            with_reducible rfl
                           rotate_left
                           ·simp only [Act.put, zA, zB, zC, i64_w, i32_w]
                            rfl
                           refine pure_ (i := 20) (N := some 128) (v := ?_) (a' := ?_) w12_ActShuts.b38 rfl rfl (any_of HT_.out (by kernel_rfl)) (fun _ _ _ h => h) (Or.inl ⟨by rfl, ?_⟩) ?_ ?_
                           rotate_left
                           ·intro w'
                            go_simp
                            with_reducible rfl
                           rotate_left
                           ·simp only [Act.put, zA, zB, zC, i64_w, i32_w]
                            rfl
                           refine take_ (i := 17) (N := some 125) (v := ?_) (a' := ?_) w12_ActShuts.b39 rfl rfl (take_ofW HT_.out HW_.out (by kernel_rfl)) (fun _ _ _ h => h) (Or.inl ⟨by rfl, ?_⟩) hHeld ?_ ?_
                           rotate_left
                           ·rintro w' ⟨s0, s1, s2⟩
                            go_simp
                            with_reducible rfl
                           rotate_left
                           ·simp only [Act.put, zA, zB, zC, i64_w, i32_w]
                            rfl
                           refine take_ (i := 21) (N := some 129) (v := ?_) (a' := ?_) w12_ActShuts.b40 rfl rfl (take_ofW HT_.out HW_.out (by kernel_rfl)) (fun _ _ _ h => h) (Or.inl ⟨by rfl, ?_⟩) hHeld ?_ ?_
                           rotate_left
                           ·rintro w' ⟨s0, s1, s2⟩
                            go_simp
                            with_reducible rfl
                           rotate_left
                           ·simp only [Act.put, zA, zB, zC, i64_w, i32_w]
                            rfl
                           refine pure_ (i := 22) (N := some 130) (v := ?_) (a' := ?_) w12_ActShuts.b41 rfl rfl (any_of HT_.out (by kernel_rfl)) (fun _ _ _ h => h) (Or.inl ⟨by rfl, ?_⟩) ?_ ?_
                           rotate_left
                           ·intro w'
                            go_simp
                            with_reducible rfl
                           rotate_left
                           ·simp only [Act.put, zA, zB, zC, i64_w, i32_w]
                            rfl
                           refine pure_ (i := 23) (N := some 131) (v := ?_) (a' := ?_) w12_ActShuts.b42 rfl rfl (any_of HT_.out (by kernel_rfl)) (fun _ _ _ h => h) (Or.inl ⟨by rfl, ?_⟩) ?_ ?_
                           rotate_left
                           ·intro w'
                            go_simp
                            with_reducible rfl
                           rotate_left
                           ·simp only [Act.put, zA, zB, zC, i64_w, i32_w]
                            rfl
                           refine done_ (done_of HT_.out (by kernel_rfl)) ?_
                           try go_wp2
                           go_roundg k4
                           case measure => have := HJ7.out; have := HJ19.out; have := HJ25.out; have := HK4.out; omega
                           case rel => exact ⟨(wrap64 (x90_4 + 1)), (by first | rfl | (simp; done) | (simp [*]; done)), H', ⟨by have := HJ7.out; have := HJ19.out; have := HJ25.out; have := HK4.out; omega⟩, ⟨by (with_reducible repeat (first | apply zL | apply zM | apply zN)); exact yd HO_7.out (fun _ hk => ⟨hk.1.1, ⟨hk.1.2.1, hk.1.2.2⟩⟩)⟩, ⟨by (with_reducible repeat (first | apply zL | apply zM | apply zN)); exact yd HO_8.out (fun _ hk => ⟨hk.1.1, ⟨hk.1.2.1, hk.1.2.2⟩⟩)⟩, ⟨by (with_reducible repeat (first | apply zL | apply zM | apply zN)); exact yd HO_10.out (fun _ hk => ⟨hk.1.1, ⟨hk.1.2.1, hk.1.2.2⟩⟩)⟩, ⟨by (with_reducible repeat (first | apply zL | apply zM | apply zN)); exact yd HO_12.out (fun _ hk => ⟨hk.1.1, ⟨hk.1.2.1, hk.1.2.2⟩⟩)⟩, ⟨by (with_reducible repeat (first | refine zF ?_ _ | refine zH ?_ | refine zG ?_ _)); exact Z0.out⟩, ⟨by repeat (first | (with_reducible first | exact HB.out | apply zJ | apply zD | apply zE | refine zI ?_ Z1.out) | exact HB.out)⟩⟩
                          ·rw [if_neg c48] at H
                           have c48b0 : ((rd t494 0) == (rd t488 x90_4)) = false := beq_eq_false_iff_ne.mpr c48
                           have c48b1 : ((rd t494 0) != (rd t488 x90_4)) = true := bne_iff_ne.mpr c48
                           obtain rfl := yY H
                           try go_wp2
                           have n0_ := zK (zN HO_7.out)
                           have n1_ := zK (zN HO_8.out)
                           have n2_ := zK (zN HO_10.out)
                           have n3_ := zK (zN HO_12.out)
                           have n4_ := zK (zH Z0.out)
                           have n5_ := zK (zE HB.out)
                           clear HO_7 HO_8 HO_10 HO_12 Z0 HB
                           have HO_7 := n0_; have HO_8 := n1_; have HO_10 := n2_; have HO_12 := n3_; have Z0 := n4_; have HB := n5_
                           clear n0_ n1_ n2_ n3_ n4_ n5_
                           obtain ⟨i057, hi057, _, hsz57, _⟩ := yj info30
                           obtain ⟨A57, hcut57, hA57, hC57⟩ := print_mid_of (P := Try.prog) (Value.int .i8) 0 23 30 .i64 .i64 Try.underlying23 hi057 hsz57 A0 c0 l0 x90_4 (wrap64 (x90_4 + 1)) (yB (by first | (with_reducible assumption) | assumption)) (by first | omega | exact yB (by first | (with_reducible assumption) | assumption)) (yB (by first | (with_reducible assumption) | assumption)) HC0.out
                           have HR492 := zK (Kd.C_of_reads (h1 := fun _ => rfl) (hA57 _ (Kd.reads_of_C HR0.out)))
                           have HC492 := zK hC57
                           clear hA57 hC57 hi057 hsz57
                           obtain ⟨i058, hi058, _, hsz58, _⟩ := yj info30
                           obtain ⟨A58, hcut58, hA58, hC58⟩ := print_mid_of (P := Try.prog) (Value.int .i8) 0 23 30 .i64 .i64 Try.underlying23 hi058 hsz58 A1 c1 l1 x90_4 (wrap64 (x90_4 + 1)) (yB (by first | (with_reducible assumption) | assumption)) (by first | omega | exact yB (by first | (with_reducible assumption) | assumption)) (yB (by first | (with_reducible assumption) | assumption)) HC1.out
                           have HR493 := zK (Kd.C_of_reads (h1 := fun _ => rfl) (hA58 _ (Kd.reads_of_C HR1.out)))
                           have HC493 := zK hC58
                           clear hA58 hC58 hi058 hsz58
                           refine start_ (n := 17) (S := fun w' => True) (ds := []) w12_ActShuts.b0 (by kernel_rfl) rfl rfl trivial (fun hHeld => ?_); refine with_tabW w12_ActShuts.tab18 w12_ActShuts.bits18 (fun HT_ HW_ => ?_)
                           generalize wr.drew = w56 at HO_7 HO_8 HO_10 HO_12 Z0 HB HR492 HR493 hHeld ⊢
                           refine pure_ (i := 0) (N := some 94) (v := ?_) (a' := ?_) w12_ActShuts.b1 rfl rfl (any_of HT_.out (by kernel_rfl)) (fun _ _ _ h => h) (Or.inl ⟨by rfl, ?_⟩) ?_ ?_
                           rotate_left
                           ·intro w'
                            go_simp
                            with_reducible rfl
                           rotate_left
                           ·simp only [Act.put, zA, zB, zC, i64_w, i32_w]
                            rfl
                           refine pure_ (i := 1) (N := some 95) (v := ?_) (a' := ?_) w12_ActShuts.b2 rfl rfl (any_of HT_.out (by kernel_rfl)) (fun _ _ _ h => h) (Or.inl ⟨by rfl, ?_⟩) ?_ ?_
                           rotate_left
                           ·intro w'
                            go_simp
                            with_reducible rfl
                           rotate_left
                           ·simp only [Act.put, zA, zB, zC, i64_w, i32_w]
                            rfl
                           refine pure_ (i := 2) (N := some 96) (v := ?_) (a' := ?_) w12_ActShuts.b3 rfl rfl (any_of HT_.out (by kernel_rfl)) (fun _ _ _ h => h) (Or.inl ⟨by rfl, ?_⟩) ?_ ?_
                           rotate_left
                           ·intro w'
                            go_simp
                            with_reducible rfl
                           rotate_left
                           ·simp only [Act.put, zA, zB, zC, i64_w, i32_w]
                            rfl
                           refine pure_ (i := 3) (N := some 97) (v := ?_) (a' := ?_) w12_ActShuts.b4 rfl rfl (any_of HT_.out (by kernel_rfl)) (fun _ _ _ h => h) (Or.inl ⟨by rfl, ?_⟩) ?_ ?_
                           rotate_left
                           ·intro w'
                            go_simp
                            with_reducible rfl
                           rotate_left
                           ·simp only [Act.put, zA, zB, zC, i64_w, i32_w]
                            rfl
                           refine pure_ (i := 4) (N := some 98) (v := ?_) (a' := ?_) w12_ActShuts.b5 rfl rfl (any_of HT_.out (by kernel_rfl)) (fun _ _ _ h => h) (Or.inl ⟨by rfl, ?_⟩) ?_ ?_
                           rotate_left
                           ·intro w'
                            go_simp
                            with_reducible rfl
                           rotate_left
                           ·simp only [Act.put, zA, zB, zC, i64_w, i32_w]
                            rfl
                           refine pure_ (i := 5) (N := some 99) (v := ?_) (a' := ?_) w12_ActShuts.b6 rfl rfl (any_of HT_.out (by kernel_rfl)) (fun _ _ _ h => h) (Or.inl ⟨by rfl, ?_⟩) ?_ ?_
                           rotate_left
                           ·intro w'
                            go_simp
                            with_reducible rfl
                           rotate_left
                           ·simp only [Act.put, zA, zB, zC, i64_w, i32_w]
                            rfl
                           refine pure_ (i := 6) (N := some 100) (v := ?_) (a' := ?_) w12_ActShuts.b7 rfl rfl (any_of HT_.out (by kernel_rfl)) (fun _ _ _ h => h) (Or.inl ⟨by rfl, ?_⟩) ?_ ?_
                           rotate_left
                           ·intro w'
                            go_simp
                            with_reducible rfl
                           rotate_left
                           ·simp only [Act.put, zA, zB, zC, i64_w, i32_w]
                            rfl
                           refine pure_ (i := 7) (N := some 101) (v := ?_) (a' := ?_) w12_ActShuts.b8 rfl rfl (any_of HT_.out (by kernel_rfl)) (fun _ _ _ h => h) (Or.inl ⟨by rfl, ?_⟩) ?_ ?_
                           rotate_left
                           ·intro w'
                            go_simp
                            with_reducible rfl
                           rotate_left
                           ·simp only [Act.put, zA, zB, zC, i64_w, i32_w]
                            rfl
                           refine pure_ (i := 8) (N := some 102) (v := ?_) (a' := ?_) w12_ActShuts.b9 rfl rfl (any_of HT_.out (by kernel_rfl)) (fun _ _ _ h => h) (Or.inl ⟨by rfl, ?_⟩) ?_ ?_
                           rotate_left
                           ·intro w'
                            go_simp
                            with_reducible rfl
                           rotate_left
                           ·simp only [Act.put, zA, zB, zC, i64_w, i32_w]
                            rfl
                           refine pure_ (i := 9) (N := some 103) (v := ?_) (a' := ?_) w12_ActShuts.b10 rfl rfl (any_of HT_.out (by kernel_rfl)) (fun _ _ _ h => h) (Or.inl ⟨by rfl, ?_⟩) ?_ ?_
                           rotate_left
                           ·intro w'
                            go_simp
                            with_reducible rfl
                           rotate_left
                           ·simp only [Act.put, zA, zB, zC, i64_w, i32_w]
                            rfl
                           refine pure_ (i := 10) (N := some 104) (v := ?_) (a' := ?_) w12_ActShuts.b11 rfl rfl (any_of HT_.out (by kernel_rfl)) (fun _ _ _ h => h) (Or.inl ⟨by rfl, ?_⟩) ?_ ?_
                           rotate_left
                           ·intro w'
                            go_simp
                            with_reducible rfl
                           rotate_left
                           ·simp only [Act.put, zA, zB, zC, i64_w, i32_w]
                            rfl
                           refine one_ (i := 11) (N := some 105) w12_ActShuts.b12 rfl rfl (one_of HT_.out (by kernel_rfl)) (by decide) (fun K hK => ?_)
                           refine goes_ Try.func14 (by kernel_rfl) rfl #[.slice Ao28 t484.length co28, .slice A57 ((l0.take ((wrap64 (x90_4 + 1)) : Int).toNat).drop (x90_4 : Int).toNat).length (c0 - x90_4.toNat), .slice A58 ((l1.take ((wrap64 (x90_4 + 1)) : Int).toNat).drop (x90_4 : Int).toNat).length (c1 - x90_4.toNat)] (by rfl) rfl rfl (by (try simp only [yH, yI, yJ]); first | done | (rw [show ((l0.take ((wrap64 (x90_4 + 1)) : Int).toNat).drop (x90_4 : Int).toNat).length = ((wrap64 (x90_4 + 1)).toNat - x90_4.toNat) from (by rw [yG, yF]; have h_ : ((wrap64 (x90_4 + 1)) : Int) ≤ (l0.length : Int) := yB (by first | (with_reducible assumption) | assumption); omega), show ((l1.take ((wrap64 (x90_4 + 1)) : Int).toNat).drop (x90_4 : Int).toNat).length = ((wrap64 (x90_4 + 1)).toNat - x90_4.toNat) from (by rw [yG, yF]; have h_ : ((wrap64 (x90_4 + 1)) : Int) ≤ (l1.length : Int) := yB (by first | (with_reducible assumption) | assumption); omega)] <;> rfl) | (rw [show ((l0.take ((wrap64 (x90_4 + 1)) : Int).toNat).drop (x90_4 : Int).toNat).length = ((wrap64 (x90_4 + 1)).toNat - x90_4.toNat) from (by rw [yG, yF]; have h_ : ((wrap64 (x90_4 + 1)) : Int) ≤ (l0.length : Int) := yB (by first | (with_reducible assumption) | assumption); omega)] <;> rfl) | (rw [show ((l1.take ((wrap64 (x90_4 + 1)) : Int).toNat).drop (x90_4 : Int).toNat).length = ((wrap64 (x90_4 + 1)).toNat - x90_4.toNat) from (by rw [yG, yF]; have h_ : ((wrap64 (x90_4 + 1)) : Int) ≤ (l1.length : Int) := yB (by first | (with_reducible assumption) | assumption); omega)] <;> rfl) | rfl | (simp only [yG, yF]; rfl)) ?_
                           with_reducible refine (act_Gate.calls k4 _ _ t484 _ _ ((l0.take ((wrap64 (x90_4 + 1)) : Int).toNat).drop (x90_4 : Int).toNat) _ _ ((l1.take ((wrap64 (x90_4 + 1)) : Int).toNat).drop (x90_4 : Int).toNat) t494 t495 _ ?side1 ?side2 ?side3 ?side4 ?side5 ?side6 A41.out).mono ?_
                           (case side1 => repeat (first | exact (yM HO_10.out).2.2 | (with_reducible refine yS ?_ _) | (with_reducible refine yT ?_ _) | (with_reducible refine yU ?_)))
                           (case side2 => exact (yM HO_10.out).2.1)
                           (case side3 => repeat (first | exact (yc HR492.out HB.out) | (with_reducible refine yS ?_ _) | (with_reducible refine yT ?_ _) | (with_reducible refine yU ?_)))
                           (case side4 => exact HC492.out)
                           (case side5 => repeat (first | exact (yc HR493.out HB.out) | (with_reducible refine yS ?_ _) | (with_reducible refine yT ?_ _) | (with_reducible refine yU ?_)))
                           (case side6 => exact HC493.out)
                           rintro e w59 ⟨v496, rfl, ho0, hb⟩
                           refine ⟨_, rfl, ?_⟩
                           have n0_ := zK (Kd.R_elder' (by (with_reducible repeat (first | apply zL | apply zM | apply zN)); exact HO_7.out) (Kd.R_base ho0) hb)
                           have n1_ := zK (Kd.R_elder' (by (with_reducible repeat (first | apply zL | apply zM | apply zN)); exact HO_8.out) (Kd.R_base ho0) hb)
                           have n2_ := zK (Kd.R_elder' (by (with_reducible repeat (first | apply zL | apply zM | apply zN)); exact HO_10.out) (Kd.R_base ho0) hb)
                           have n3_ := zK (Kd.R_elder' (by (with_reducible repeat (first | apply zL | apply zM | apply zN)); exact HO_12.out) (Kd.R_base ho0) hb)
                           have n4_ := zK (Kd.R_lower (Kd.R_new' (Kd.R_new' (Kd.R_new' (Kd.R_new' ho0 (Kd.R_lt (by (with_reducible repeat (first | apply zL | apply zM | apply zN)); exact HO_7.out))) (Kd.R_lt (by (with_reducible repeat (first | apply zL | apply zM | apply zN)); exact HO_8.out))) (Kd.R_lt (by (with_reducible repeat (first | apply zL | apply zM | apply zN)); exact HO_10.out))) (Kd.R_lt (by (with_reducible repeat (first | apply zL | apply zM | apply zN)); exact HO_12.out))) (yK (by repeat (first | (with_reducible first | exact HB.out | apply zJ | apply zD | apply zE | refine zI ?_ Z1.out) | exact HB.out))))
                           have n5_ := zK (zP (g := Z3) (o := .cells #[.slice A2_0 l2_0.length c2_0, .slice A2_1 l2_1.length c2_1, .slice A2_2 l2_2.length c2_2, .int .i64 a2_3, .int .i64 a2_4, .int .i64 a2_5] 36 (0, 0)) (by (with_reducible repeat (first | refine zF ?_ _ | refine zH ?_ | refine zG ?_ _)); exact Z0.out) hb)
                           have n6_ := zK (yL (by repeat (first | (with_reducible first | exact HB.out | apply zJ | apply zD | apply zE | refine zI ?_ Z1.out) | exact HB.out)) hb)
                           clear HO_7 HO_8 HO_10 HO_12 Z0 HB
                           have HO_7 := n0_; have HO_8 := n1_; have HO_10 := n2_; have HO_12 := n3_; have HO497 := n4_; have Z0 := n5_; have HB := n6_
                           clear n0_ n1_ n2_ n3_ n4_ n5_ n6_
                           (try clear hb)
                           (try clear hb2)
                           (try clear hk)
                           (try clear hi)
                           (try clear ho0)
                           refine hK.out _ _ trivial (fun hHeld => ?_)
                           clear hK K
                           refine norm_ (a' := ?_) ?_ ?_
                           rotate_left
                           ·show Act.put _ (some 105) _ = _
                            simp only [Act.put, zA, zB, zC, i64_w, i32_w]
                            rfl
                           refine pure_ (i := 12) (N := some 93) (v := ?_) (a' := ?_) w12_ActShuts.b13 rfl rfl (any_of HT_.out (by kernel_rfl)) (fun _ _ _ h => h) (Or.inl ⟨by rfl, ?_⟩) ?_ ?_
                           rotate_left
                           ·intro w'
                            go_simp
                            with_reducible rfl
                           rotate_left
                           ·simp only [Act.put, zA, zB, zC, i64_w, i32_w]
                            rfl
                           refine pure_ (i := 13) (N := some 106) (v := ?_) (a' := ?_) w12_ActShuts.b14 rfl rfl (any_of HT_.out (by kernel_rfl)) (fun _ _ _ h => h) (Or.inl ⟨by rfl, ?_⟩) ?_ ?_
                           rotate_left
                           ·intro w'
                            go_simp
                            with_reducible rfl
                           rotate_left
                           ·simp only [Act.put, zA, zB, zC, i64_w, i32_w]
                            rfl
                           refine pure_ (i := 14) (N := some 107) (v := ?_) (a' := ?_) w12_ActShuts.b15 rfl rfl (any_of HT_.out (by kernel_rfl)) (fun _ _ _ h => h) (Or.inl ⟨by rfl, ?_⟩) ?_ ?_
                           rotate_left
                           ·intro w'
                            go_simp
                            with_reducible rfl
                           rotate_left
                           ·simp only [Act.put, zA, zB, zC, i64_w, i32_w]
                            rfl
                           refine pure_ (i := 15) (N := some 15) (v := ?_) (a' := ?_) w12_ActShuts.b16 rfl rfl (any_of HT_.out (by kernel_rfl)) (fun _ _ _ h => h) (Or.inl ⟨by rfl, ?_⟩) ?_ ?_
                           rotate_left
                           ·intro w'
                            go_simp
                            with_reducible rfl
                           rotate_left
                           ·simp only [Act.put, zA, zB, zC, i64_w, i32_w]
                            rfl
                           refine pure_ (i := 16) (N := some 16) (v := ?_) (a' := ?_) w12_ActShuts.b17 rfl rfl (any_of HT_.out (by kernel_rfl)) (fun _ _ _ h => h) (Or.inl ⟨by rfl, ?_⟩) ?_ ?_
                           rotate_left
                           ·intro w'
                            go_simp
                            with_reducible rfl
                           rotate_left
                           ·simp only [Act.put, zA, zB, zC, i64_w, i32_w]
                            rfl
                           refine done_ (done_of HT_.out (by kernel_rfl)) ?_
                           try go_wp2
                           have n0_ := zK (zN HO_7.out)
                           have n1_ := zK (zN HO_8.out)
                           have n2_ := zK (zN HO_10.out)
                           have n3_ := zK (zN HO_12.out)
                           have n4_ := zK (zN HO497.out)
                           have n5_ := zK (zH Z0.out)
                           have n6_ := zK (zE HB.out)
                           clear HO_7 HO_8 HO_10 HO_12 HO497 Z0 HB
                           have HO_7 := n0_; have HO_8 := n1_; have HO_10 := n2_; have HO_12 := n3_; have HO497 := n4_; have Z0 := n5_; have HB := n6_
                           clear n0_ n1_ n2_ n3_ n4_ n5_ n6_
                           have p498 : 0 ≤ (x90_4 : Int) := yB (by first | (with_reducible assumption) | assumption)
                           have q498 : x90_4 < (t480.length : Int) := yB (by first | (with_reducible assumption) | assumption)
                           (try (obtain ⟨Ai498, ci498, ei498⟩ := Kd.R_slice HO_8.out; subst ei498))
                           obtain ⟨ad498, e498, hx498_0⟩ := Kd.at_int (yM HO_8.out).2.2 x90_4 p498 q498
                           cases e498
                           replace p498 := yg p498
                           replace q498 := yg q498
                           obtain ⟨Ao61, co61, eo61⟩ := Kd.R_slice HO497.out
                           (first | subst eo61 | (injection eo61 with f1_ f2_ f3_; have f4_ := f1_.symm; have f5_ := f3_.symm; clear f1_ f2_ f3_; subst f4_; subst f5_))
                           have p499 : 0 ≤ (0 : Int) := (by omega)
                           have q499 : 0 < (t494.length : Int) := yB (by first | (with_reducible assumption) | assumption)
                           obtain ⟨ad499, e499, hx499_0⟩ := Kd.at_int (yM HO497.out).2.2 0 p499 q499
                           cases e499
                           have qi499 : (0 < t494.length) = True := yg (by omega)
                           (try rw [show ((0 : Int)).toNat = 0 from rfl] at hx499_0)
                           (try rw [Addr.add_zero'] at hx499_0)
                           replace p499 := yg p499
                           replace q499 := yg q499
                           obtain ⟨Ao62, co62, eo62⟩ := Kd.R_slice HO_12.out
                           (first | subst eo62 | (injection eo62 with f1_ f2_ f3_; have f4_ := f1_.symm; have f5_ := f3_.symm; clear f1_ f2_ f3_; subst f4_; subst f5_))
                           have p500 : 0 ≤ (x90_4 : Int) := yB (by first | (with_reducible assumption) | assumption)
                           have q500 : x90_4 < (t488.length : Int) := yB (by first | (with_reducible assumption) | assumption)
                           (try (obtain ⟨Ai500, ci500, ei500⟩ := Kd.R_slice HO_12.out; subst ei500))
                           obtain ⟨ad500, e500, hx500_0⟩ := Kd.at_int (yM HO_12.out).2.2 x90_4 p500 q500
                           cases e500
                           replace p500 := yg p500
                           replace q500 := yg q500
                           refine start_ (n := 24) (S := fun w' => w'.cell? (ad498.add (x90_4).toNat) = some (.int .i8 (rd t480 x90_4)) ∧ w'.cell? ad499 = some (.int .i8 (rd t494 0)) ∧ w'.cell? (ad500.add (x90_4).toNat) = some (.int .i8 (rd t488 x90_4))) (ds := []) w12_ActShuts.b18 (by kernel_rfl) rfl rfl ⟨hx498_0, hx499_0, hx500_0⟩ (fun hHeld => ?_); refine with_tabW w12_ActShuts.tab19 w12_ActShuts.bits19 (fun HT_ HW_ => ?_)
                           generalize w59.drew = w60 at HO_7 HO_8 HO_10 HO_12 HO497 Z0 HB hx498_0 hx499_0 hx500_0 hHeld ⊢
                           refine pure_ (i := 0) (N := some 108) (v := ?_) (a' := ?_) w12_ActShuts.b19 rfl rfl (any_of HT_.out (by kernel_rfl)) (fun _ _ _ h => h) (Or.inl ⟨by rfl, ?_⟩) ?_ ?_
                           rotate_left
                           ·intro w'
                            go_simp
                            with_reducible rfl
                           rotate_left
                           ·simp only [Act.put, zA, zB, zC, i64_w, i32_w]
                            rfl
                           refine pure_ (i := 1) (N := some 109) (v := ?_) (a' := ?_) w12_ActShuts.b20 rfl rfl (any_of HT_.out (by kernel_rfl)) (fun _ _ _ h => h) (Or.inl ⟨by rfl, ?_⟩) ?_ ?_
                           rotate_left
                           ·intro w'
                            go_simp
                            with_reducible rfl
                           rotate_left
                           ·simp only [Act.put, zA, zB, zC, i64_w, i32_w]
                            rfl
                           refine pure_ (i := 2) (N := some 110) (v := ?_) (a' := ?_) w12_ActShuts.b21 rfl rfl (any_of HT_.out (by kernel_rfl)) (fun _ _ _ h => h) (Or.inl ⟨by rfl, ?_⟩) ?_ ?_
                           rotate_left
                           ·intro w'
                            go_simp
                            with_reducible rfl
                           rotate_left
                           ·simp only [Act.put, zA, zB, zC, i64_w, i32_w]
                            rfl
                           refine take_ (i := 3) (N := some 111) (v := ?_) (a' := ?_) w12_ActShuts.b22 rfl rfl (take_ofW HT_.out HW_.out (by kernel_rfl)) (fun _ _ _ h => h) (Or.inl ⟨by rfl, ?_⟩) hHeld ?_ ?_
                           rotate_left
                           ·rintro w' ⟨s0, s1, s2⟩
                            go_simp
                            with_reducible rfl
                           rotate_left
                           ·simp only [Act.put, zA, zB, zC, i64_w, i32_w]
                            rfl
                           refine pure_ (i := 4) (N := some 112) (v := ?_) (a' := ?_) w12_ActShuts.b23 rfl rfl (any_of HT_.out (by kernel_rfl)) (fun _ _ _ h => h) (Or.inl ⟨by rfl, ?_⟩) ?_ ?_
                           rotate_left
                           ·intro w'
                            go_simp
                            with_reducible rfl
                           rotate_left
                           ·simp only [Act.put, zA, zB, zC, i64_w, i32_w]
                            rfl
                           refine pure_ (i := 5) (N := some 113) (v := ?_) (a' := ?_) w12_ActShuts.b24 rfl rfl (any_of HT_.out (by kernel_rfl)) (fun _ _ _ h => h) (Or.inl ⟨by rfl, ?_⟩) ?_ ?_
                           rotate_left
                           ·intro w'
                            go_simp
                            with_reducible rfl
                           rotate_left
                           ·simp only [Act.put, zA, zB, zC, i64_w, i32_w]
                            rfl
                           refine pure_ (i := 6) (N := some 114) (v := ?_) (a' := ?_) w12_ActShuts.b25 rfl rfl (any_of HT_.out (by kernel_rfl)) (fun _ _ _ h => h) (Or.inl ⟨by rfl, ?_⟩) ?_ ?_
                           rotate_left
                           ·intro w'
                            go_simp
                            with_reducible rfl
                           rotate_left
                           ·simp only [Act.put, zA, zB, zC, i64_w, i32_w]
                            rfl
                           refine pure_ (i := 7) (N := some 115) (v := ?_) (a' := ?_) w12_ActShuts.b26 rfl rfl (any_of HT_.out (by kernel_rfl)) (fun _ _ _ h => h) (Or.inl ⟨by rfl, ?_⟩) ?_ ?_
                           rotate_left
                           ·intro w'
                            go_simp
                            with_reducible rfl
                           rotate_left
                           ·simp only [Act.put, zA, zB, zC, i64_w, i32_w]
                            rfl
                           refine pure_ (i := 8) (N := some 116) (v := ?_) (a' := ?_) w12_ActShuts.b27 rfl rfl (any_of HT_.out (by kernel_rfl)) (fun _ _ _ h => h) (Or.inl ⟨by rfl, ?_⟩) ?_ ?_
                           rotate_left
                           ·intro w'
                            go_simp
                            with_reducible rfl
                           rotate_left
                           ·simp only [Act.put, zA, zB, zC, i64_w, i32_w]
                            rfl
                           refine pure_ (i := 9) (N := some 117) (v := ?_) (a' := ?_) w12_ActShuts.b28 rfl rfl (any_of HT_.out (by kernel_rfl)) (fun _ _ _ h => h) (Or.inl ⟨by rfl, ?_⟩) ?_ ?_
                           rotate_left
                           ·intro w'
                            go_simp
                            with_reducible rfl
                           rotate_left
                           ·simp only [Act.put, zA, zB, zC, i64_w, i32_w]
                            rfl
                           refine pure_ (i := 10) (N := some 118) (v := ?_) (a' := ?_) w12_ActShuts.b29 rfl rfl (any_of HT_.out (by kernel_rfl)) (fun _ _ _ h => h) (Or.inl ⟨by rfl, ?_⟩) ?_ ?_
                           rotate_left
                           ·intro w'
                            go_simp
                            with_reducible rfl
                           rotate_left
                           ·simp only [Act.put, zA, zB, zC, i64_w, i32_w]
                            rfl
                           refine pure_ (i := 11) (N := some 119) (v := ?_) (a' := ?_) w12_ActShuts.b30 rfl rfl (any_of HT_.out (by kernel_rfl)) (fun _ _ _ h => h) (Or.inl ⟨by rfl, ?_⟩) ?_ ?_
                           rotate_left
                           ·intro w'
                            go_simp
                            with_reducible rfl
                           rotate_left
                           ·simp only [Act.put, zA, zB, zC, i64_w, i32_w]
                            rfl
                           refine pure_ (i := 12) (N := some 120) (v := ?_) (a' := ?_) w12_ActShuts.b31 rfl rfl (any_of HT_.out (by kernel_rfl)) (fun _ _ _ h => h) (Or.inl ⟨by rfl, ?_⟩) ?_ ?_
                           rotate_left
                           ·intro w'
                            go_simp
                            with_reducible rfl
                           rotate_left
                           ·simp only [Act.put, zA, zB, zC, i64_w, i32_w]
                            rfl
                           refine pure_ (i := 13) (N := some 121) (v := ?_) (a' := ?_) w12_ActShuts.b32 rfl rfl (any_of HT_.out (by kernel_rfl)) (fun _ _ _ h => h) (Or.inl ⟨by rfl, ?_⟩) ?_ ?_
                           rotate_left
                           ·intro w'
                            go_simp
                            with_reducible rfl
                           rotate_left
                           ·simp only [Act.put, zA, zB, zC, i64_w, i32_w]
                            rfl
                           refine pure_ (i := 14) (N := some 122) (v := ?_) (a' := ?_) w12_ActShuts.b33 rfl rfl (any_of HT_.out (by kernel_rfl)) (fun _ _ _ h => h) (Or.inl ⟨by rfl, ?_⟩) ?_ ?_
                           rotate_left
                           ·intro w'
                            go_simp
                            with_reducible rfl
                           rotate_left
                           ·simp only [Act.put, zA, zB, zC, i64_w, i32_w]
                            rfl
                           refine pure_ (i := 15) (N := some 123) (v := ?_) (a' := ?_) w12_ActShuts.b34 rfl rfl (any_of HT_.out (by kernel_rfl)) (fun _ _ _ h => h) (Or.inl ⟨by rfl, ?_⟩) ?_ ?_
                           rotate_left
                           ·intro w'
                            go_simp
                            with_reducible rfl
                           rotate_left
                           ·simp only [Act.put, zA, zB, zC, i64_w, i32_w]
                            rfl
                           refine pure_ (i := 16) (N := some 124) (v := ?_) (a' := ?_) w12_ActShuts.b35 rfl rfl (any_of HT_.out (by kernel_rfl)) (fun _ _ _ h => h) (Or.inl ⟨by rfl, ?_⟩) ?_ ?_
                           rotate_left
                           ·intro w'
                            go_simp
                            with_reducible rfl
                           rotate_left
                           ·simp only [Act.put, zA, zB, zC, i64_w, i32_w]
                            rfl
                           refine pure_ (i := 18) (N := some 126) (v := ?_) (a' := ?_) w12_ActShuts.b36 rfl rfl (any_of HT_.out (by kernel_rfl)) (fun _ _ _ h => h) (Or.inl ⟨by rfl, ?_⟩) ?_ ?_
                           rotate_left
                           ·intro w'
                            go_simp
                            with_reducible rfl
                           rotate_left
                           ·simp only [Act.put, zA, zB, zC, i64_w, i32_w]
                            rfl
                           refine pure_ (i := 19) (N := some 127) (v := ?_) (a' := ?_) w12_ActShuts.b37 rfl rfl (any_of HT_.out (by kernel_rfl)) (fun _ _ _ h => h) (Or.inl ⟨by rfl, ?_⟩) ?_ ?_
                           rotate_left
                           ·intro w'
                            go_simp
                            with_reducible rfl
                           rotate_left
                           ·simp only [Act.put, zA, zB, zC, i64_w, i32_w]
                            rfl
                           refine pure_ (i := 20) (N := some 128) (v := ?_) (a' := ?_) w12_ActShuts.b38 rfl rfl (any_of HT_.out (by kernel_rfl)) (fun _ _ _ h => h) (Or.inl ⟨by rfl, ?_⟩) ?_ ?_
                           rotate_left
                           ·intro w'
                            go_simp
                            with_reducible rfl
                           rotate_left
                           ·simp only [Act.put, zA, zB, zC, i64_w, i32_w]
                            rfl
                           refine take_ (i := 17) (N := some 125) (v := ?_) (a' := ?_) w12_ActShuts.b39 rfl rfl (take_ofW HT_.out HW_.out (by kernel_rfl)) (fun _ _ _ h => h) (Or.inl ⟨by rfl, ?_⟩) hHeld ?_ ?_
                           rotate_left
                           ·rintro w' ⟨s0, s1, s2⟩
                            go_simp
                            with_reducible rfl
                           rotate_left
                           ·simp only [Act.put, zA, zB, zC, i64_w, i32_w]
                            rfl
                           refine take_ (i := 21) (N := some 129) (v := ?_) (a' := ?_) w12_ActShuts.b40 rfl rfl (take_ofW HT_.out HW_.out (by kernel_rfl)) (fun _ _ _ h => h) (Or.inl ⟨by rfl, ?_⟩) hHeld ?_ ?_
                           rotate_left
                           ·rintro w' ⟨s0, s1, s2⟩
                            go_simp
                            with_reducible rfl
                           rotate_left
                           ·simp only [Act.put, zA, zB, zC, i64_w, i32_w]
                            rfl
                           refine pure_ (i := 22) (N := some 130) (v := ?_) (a' := ?_) w12_ActShuts.b41 rfl rfl (any_of HT_.out (by kernel_rfl)) (fun _ _ _ h => h) (Or.inl ⟨by rfl, ?_⟩) ?_ ?_
                           rotate_left
                           ·intro w'
                            go_simp
                            with_reducible rfl
                           rotate_left
                           ·simp only [Act.put, zA, zB, zC, i64_w, i32_w]
                            rfl
                           refine pure_ (i := 23) (N := some 131) (v := ?_) (a' := ?_) w12_ActShuts.b42 rfl rfl (any_of HT_.out (by kernel_rfl)) (fun _ _ _ h => h) (Or.inl ⟨by rfl, ?_⟩) ?_ ?_
                           rotate_left
                           ·intro w'
                            go_simp
                            with_reducible rfl
                           rotate_left
                           ·simp only [Act.put, zA, zB, zC, i64_w, i32_w]
                            rfl
                           refine done_ (done_of HT_.out (by kernel_rfl)) ?_
                           try go_wp2
                           go_ret
                           exact ⟨by first | rfl | (simp [errW_none, errW_some] <;> rfl) | (simp [*, errW_none, errW_some] <;> rfl), by repeat (first | (with_reducible first | exact HB.out | apply zJ | apply zD | apply zE | refine zI ?_ Z1.out) | exact HB.out)⟩
                         ·rw [if_neg c47] at H
                          exact absurd H (by simp)
                        ·rw [if_neg c46] at H
                         exact absurd H (by simp)
                       ·rw [if_neg c45] at H
                        have c45b0 : ((t494.length : Int) == 1) = false := beq_eq_false_iff_ne.mpr c45
                        have c45b1 : ((t494.length : Int) != 1) = true := bne_iff_ne.mpr c45
                        obtain rfl := yY H
                        try go_wp2
                        have n0_ := zK (zN HO_7.out)
                        have n1_ := zK (zN HO_8.out)
                        have n2_ := zK (zN HO_10.out)
                        have n3_ := zK (zN HO_12.out)
                        have n4_ := zK (zH Z0.out)
                        have n5_ := zK (zE HB.out)
                        clear HO_7 HO_8 HO_10 HO_12 Z0 HB
                        have HO_7 := n0_; have HO_8 := n1_; have HO_10 := n2_; have HO_12 := n3_; have Z0 := n4_; have HB := n5_
                        clear n0_ n1_ n2_ n3_ n4_ n5_
                        obtain ⟨i064, hi064, _, hsz64, _⟩ := yj info30
                        obtain ⟨A64, hcut64, hA64, hC64⟩ := print_mid_of (P := Try.prog) (Value.int .i8) 0 23 30 .i64 .i64 Try.underlying23 hi064 hsz64 A0 c0 l0 x90_4 (wrap64 (x90_4 + 1)) (yB (by first | (with_reducible assumption) | assumption)) (by first | omega | exact yB (by first | (with_reducible assumption) | assumption)) (yB (by first | (with_reducible assumption) | assumption)) HC0.out
                        have HR492 := zK (Kd.C_of_reads (h1 := fun _ => rfl) (hA64 _ (Kd.reads_of_C HR0.out)))
                        have HC492 := zK hC64
                        clear hA64 hC64 hi064 hsz64
                        obtain ⟨i065, hi065, _, hsz65, _⟩ := yj info30
                        obtain ⟨A65, hcut65, hA65, hC65⟩ := print_mid_of (P := Try.prog) (Value.int .i8) 0 23 30 .i64 .i64 Try.underlying23 hi065 hsz65 A1 c1 l1 x90_4 (wrap64 (x90_4 + 1)) (yB (by first | (with_reducible assumption) | assumption)) (by first | omega | exact yB (by first | (with_reducible assumption) | assumption)) (yB (by first | (with_reducible assumption) | assumption)) HC1.out
                        have HR493 := zK (Kd.C_of_reads (h1 := fun _ => rfl) (hA65 _ (Kd.reads_of_C HR1.out)))
                        have HC493 := zK hC65
                        clear hA65 hC65 hi065 hsz65
                        refine start_ (n := 17) (S := fun w' => True) (ds := []) w12_ActShuts.b0 (by kernel_rfl) rfl rfl trivial (fun hHeld => ?_); refine with_tabW w12_ActShuts.tab18 w12_ActShuts.bits18 (fun HT_ HW_ => ?_)
                        generalize wr.drew = w63 at HO_7 HO_8 HO_10 HO_12 Z0 HB HR492 HR493 hHeld ⊢
                        refine pure_ (i := 0) (N := some 94) (v := ?_) (a' := ?_) w12_ActShuts.b1 rfl rfl (any_of HT_.out (by kernel_rfl)) (fun _ _ _ h => h) (Or.inl ⟨by rfl, ?_⟩) ?_ ?_
                        rotate_left
                        ·intro w'
                         go_simp
                         with_reducible rfl
                        rotate_left
                        ·simp only [Act.put, zA, zB, zC, i64_w, i32_w]
                         rfl
                        refine pure_ (i := 1) (N := some 95) (v := ?_) (a' := ?_) w12_ActShuts.b2 rfl rfl (any_of HT_.out (by kernel_rfl)) (fun _ _ _ h => h) (Or.inl ⟨by rfl, ?_⟩) ?_ ?_
                        rotate_left
                        ·intro w'
                         go_simp
                         with_reducible rfl
                        rotate_left
                        ·simp only [Act.put, zA, zB, zC, i64_w, i32_w]
                         rfl
                        refine pure_ (i := 2) (N := some 96) (v := ?_) (a' := ?_) w12_ActShuts.b3 rfl rfl (any_of HT_.out (by kernel_rfl)) (fun _ _ _ h => h) (Or.inl ⟨by rfl, ?_⟩) ?_ ?_
                        rotate_left
                        ·intro w'
                         go_simp
                         with_reducible rfl
                        rotate_left
                        ·simp only [Act.put, zA, zB, zC, i64_w, i32_w]
                         rfl
                        refine pure_ (i := 3) (N := some 97) (v := ?_) (a' := ?_) w12_ActShuts.b4 rfl rfl (any_of HT_.out (by kernel_rfl)) (fun _ _ _ h => h) (Or.inl ⟨by rfl, ?_⟩) ?_ ?_
                        rotate_left
                        ·intro w'
                         go_simp
                         with_reducible rfl
                        rotate_left
                        ·simp only [Act.put, zA, zB, zC, i64_w, i32_w]
                         rfl
                        refine pure_ (i := 4) (N := some 98) (v := ?_) (a' := ?_) w12_ActShuts.b5 rfl rfl (any_of HT_.out (by kernel_rfl)) (fun _ _ _ h => h) (Or.inl ⟨by rfl, ?_⟩) ?_ ?_
                        rotate_left
                        ·intro w'
                         go_simp
                         with_reducible rfl
                        rotate_left
                        ·simp only [Act.put, zA, zB, zC, i64_w, i32_w]
                         rfl
                        refine pure_ (i := 5) (N := some 99) (v := ?_) (a' := ?_) w12_ActShuts.b6 rfl rfl (any_of HT_.out (by kernel_rfl)) (fun _ _ _ h => h) (Or.inl ⟨by rfl, ?_⟩) ?_ ?_
                        rotate_left
                        ·intro w'
                         go_simp
                         with_reducible rfl
                        rotate_left
                        ·simp only [Act.put, zA, zB, zC, i64_w, i32_w]
                         rfl
                        refine pure_ (i := 6) (N := some 100) (v := ?_) (a' := ?_) w12_ActShuts.b7 rfl rfl (any_of HT_.out (by kernel_rfl)) (fun _ _ _ h => h) (Or.inl ⟨by rfl, ?_⟩) ?_ ?_
                        rotate_left
                        ·intro w'
                         go_simp
                         with_reducible rfl
                        rotate_left
                        ·simp only [Act.put, zA, zB, zC, i64_w, i32_w]
                         rfl
                        refine pure_ (i := 7) (N := some 101) (v := ?_) (a' := ?_) w12_ActShuts.b8 rfl rfl (any_of HT_.out (by kernel_rfl)) (fun _ _ _ h => h) (Or.inl ⟨by rfl, ?_⟩) ?_ ?_
                        rotate_left
                        ·intro w'
                         go_simp
                         with_reducible rfl
                        rotate_left
                        ·simp only [Act.put, zA, zB, zC, i64_w, i32_w]
                         rfl
                        refine pure_ (i := 8) (N := some 102) (v := ?_) (a' := ?_) w12_ActShuts.b9 rfl rfl (any_of HT_.out (by kernel_rfl)) (fun _ _ _ h => h) (Or.inl ⟨by rfl, ?_⟩) ?_ ?_
                        rotate_left
                        ·intro w'
                         go_simp
                         with_reducible rfl
                        rotate_left
                        ·simp only [Act.put, zA, zB, zC, i64_w, i32_w]
                         rfl
                        refine pure_ (i := 9) (N := some 103) (v := ?_) (a' := ?_) w12_ActShuts.b10 rfl rfl (any_of HT_.out (by kernel_rfl)) (fun _ _ _ h => h) (Or.inl ⟨by rfl, ?_⟩) ?_ ?_
                        rotate_left
                        ·intro w'
                         go_simp
                         with_reducible rfl
                        rotate_left
                        ·simp only [Act.put, zA, zB, zC, i64_w, i32_w]
                         rfl
                        refine pure_ (i := 10) (N := some 104) (v := ?_) (a' := ?_) w12_ActShuts.b11 rfl rfl (any_of HT_.out (by kernel_rfl)) (fun _ _ _ h => h) (Or.inl ⟨by rfl, ?_⟩) ?_ ?_
                        rotate_left
                        ·intro w'
                         go_simp
                         with_reducible rfl
                        rotate_left
                        ·simp only [Act.put, zA, zB, zC, i64_w, i32_w]
                         rfl
                        refine one_ (i := 11) (N := some 105) w12_ActShuts.b12 rfl rfl (one_of HT_.out (by kernel_rfl)) (by decide) (fun K hK => ?_)
                        refine goes_ Try.func14 (by kernel_rfl) rfl #[.slice Ao28 t484.length co28, .slice A64 ((l0.take ((wrap64 (x90_4 + 1)) : Int).toNat).drop (x90_4 : Int).toNat).length (c0 - x90_4.toNat), .slice A65 ((l1.take ((wrap64 (x90_4 + 1)) : Int).toNat).drop (x90_4 : Int).toNat).length (c1 - x90_4.toNat)] (by rfl) rfl rfl (by (try simp only [yH, yI, yJ]); first | done | (rw [show ((l0.take ((wrap64 (x90_4 + 1)) : Int).toNat).drop (x90_4 : Int).toNat).length = ((wrap64 (x90_4 + 1)).toNat - x90_4.toNat) from (by rw [yG, yF]; have h_ : ((wrap64 (x90_4 + 1)) : Int) ≤ (l0.length : Int) := yB (by first | (with_reducible assumption) | assumption); omega), show ((l1.take ((wrap64 (x90_4 + 1)) : Int).toNat).drop (x90_4 : Int).toNat).length = ((wrap64 (x90_4 + 1)).toNat - x90_4.toNat) from (by rw [yG, yF]; have h_ : ((wrap64 (x90_4 + 1)) : Int) ≤ (l1.length : Int) := yB (by first | (with_reducible assumption) | assumption); omega)] <;> rfl) | (rw [show ((l0.take ((wrap64 (x90_4 + 1)) : Int).toNat).drop (x90_4 : Int).toNat).length = ((wrap64 (x90_4 + 1)).toNat - x90_4.toNat) from (by rw [yG, yF]; have h_ : ((wrap64 (x90_4 + 1)) : Int) ≤ (l0.length : Int) := yB (by first | (with_reducible assumption) | assumption); omega)] <;> rfl) | (rw [show ((l1.take ((wrap64 (x90_4 + 1)) : Int).toNat).drop (x90_4 : Int).toNat).length = ((wrap64 (x90_4 + 1)).toNat - x90_4.toNat) from (by rw [yG, yF]; have h_ : ((wrap64 (x90_4 + 1)) : Int) ≤ (l1.length : Int) := yB (by first | (with_reducible assumption) | assumption); omega)] <;> rfl) | rfl | (simp only [yG, yF]; rfl)) ?_
                        with_reducible refine (act_Gate.calls k4 _ _ t484 _ _ ((l0.take ((wrap64 (x90_4 + 1)) : Int).toNat).drop (x90_4 : Int).toNat) _ _ ((l1.take ((wrap64 (x90_4 + 1)) : Int).toNat).drop (x90_4 : Int).toNat) t494 t495 _ ?side1 ?side2 ?side3 ?side4 ?side5 ?side6 A41.out).mono ?_
                        (case side1 => repeat (first | exact (yM HO_10.out).2.2 | (with_reducible refine yS ?_ _) | (with_reducible refine yT ?_ _) | (with_reducible refine yU ?_)))
                        (case side2 => exact (yM HO_10.out).2.1)
                        (case side3 => repeat (first | exact (yc HR492.out HB.out) | (with_reducible refine yS ?_ _) | (with_reducible refine yT ?_ _) | (with_reducible refine yU ?_)))
                        (case side4 => exact HC492.out)
                        (case side5 => repeat (first | exact (yc HR493.out HB.out) | (with_reducible refine yS ?_ _) | (with_reducible refine yT ?_ _) | (with_reducible refine yU ?_)))
                        (case side6 => exact HC493.out)
                        rintro e w66 ⟨v496, rfl, ho0, hb⟩
                        refine ⟨_, rfl, ?_⟩
                        have n0_ := zK (Kd.R_elder' (by (with_reducible repeat (first | apply zL | apply zM | apply zN)); exact HO_7.out) (Kd.R_base ho0) hb)
                        have n1_ := zK (Kd.R_elder' (by (with_reducible repeat (first | apply zL | apply zM | apply zN)); exact HO_8.out) (Kd.R_base ho0) hb)
                        have n2_ := zK (Kd.R_elder' (by (with_reducible repeat (first | apply zL | apply zM | apply zN)); exact HO_10.out) (Kd.R_base ho0) hb)
                        have n3_ := zK (Kd.R_elder' (by (with_reducible repeat (first | apply zL | apply zM | apply zN)); exact HO_12.out) (Kd.R_base ho0) hb)
                        have n4_ := zK (Kd.R_lower (Kd.R_new' (Kd.R_new' (Kd.R_new' (Kd.R_new' ho0 (Kd.R_lt (by (with_reducible repeat (first | apply zL | apply zM | apply zN)); exact HO_7.out))) (Kd.R_lt (by (with_reducible repeat (first | apply zL | apply zM | apply zN)); exact HO_8.out))) (Kd.R_lt (by (with_reducible repeat (first | apply zL | apply zM | apply zN)); exact HO_10.out))) (Kd.R_lt (by (with_reducible repeat (first | apply zL | apply zM | apply zN)); exact HO_12.out))) (yK (by repeat (first | (with_reducible first | exact HB.out | apply zJ | apply zD | apply zE | refine zI ?_ Z1.out) | exact HB.out))))
                        have n5_ := zK (zP (g := Z3) (o := .cells #[.slice A2_0 l2_0.length c2_0, .slice A2_1 l2_1.length c2_1, .slice A2_2 l2_2.length c2_2, .int .i64 a2_3, .int .i64 a2_4, .int .i64 a2_5] 36 (0, 0)) (by (with_reducible repeat (first | refine zF ?_ _ | refine zH ?_ | refine zG ?_ _)); exact Z0.out) hb)
                        have n6_ := zK (yL (by repeat (first | (with_reducible first | exact HB.out | apply zJ | apply zD | apply zE | refine zI ?_ Z1.out) | exact HB.out)) hb)
                        clear HO_7 HO_8 HO_10 HO_12 Z0 HB
                        have HO_7 := n0_; have HO_8 := n1_; have HO_10 := n2_; have HO_12 := n3_; have HO497 := n4_; have Z0 := n5_; have HB := n6_
                        clear n0_ n1_ n2_ n3_ n4_ n5_ n6_
                        (try clear hb)
                        (try clear hb2)
                        (try clear hk)
                        (try clear hi)
                        (try clear ho0)
                        refine hK.out _ _ trivial (fun hHeld => ?_)
                        clear hK K
                        refine norm_ (a' := ?_) ?_ ?_
                        rotate_left
                        ·show Act.put _ (some 105) _ = _
                         simp only [Act.put, zA, zB, zC, i64_w, i32_w]
                         rfl
                        refine pure_ (i := 12) (N := some 93) (v := ?_) (a' := ?_) w12_ActShuts.b13 rfl rfl (any_of HT_.out (by kernel_rfl)) (fun _ _ _ h => h) (Or.inl ⟨by rfl, ?_⟩) ?_ ?_
                        rotate_left
                        ·intro w'
                         go_simp
                         with_reducible rfl
                        rotate_left
                        ·simp only [Act.put, zA, zB, zC, i64_w, i32_w]
                         rfl
                        refine pure_ (i := 13) (N := some 106) (v := ?_) (a' := ?_) w12_ActShuts.b14 rfl rfl (any_of HT_.out (by kernel_rfl)) (fun _ _ _ h => h) (Or.inl ⟨by rfl, ?_⟩) ?_ ?_
                        rotate_left
                        ·intro w'
                         go_simp
                         with_reducible rfl
                        rotate_left
                        ·simp only [Act.put, zA, zB, zC, i64_w, i32_w]
                         rfl
                        refine pure_ (i := 14) (N := some 107) (v := ?_) (a' := ?_) w12_ActShuts.b15 rfl rfl (any_of HT_.out (by kernel_rfl)) (fun _ _ _ h => h) (Or.inl ⟨by rfl, ?_⟩) ?_ ?_
                        rotate_left
                        ·intro w'
                         go_simp
                         with_reducible rfl
                        rotate_left
                        ·simp only [Act.put, zA, zB, zC, i64_w, i32_w]
                         rfl
                        refine pure_ (i := 15) (N := some 15) (v := ?_) (a' := ?_) w12_ActShuts.b16 rfl rfl (any_of HT_.out (by kernel_rfl)) (fun _ _ _ h => h) (Or.inl ⟨by rfl, ?_⟩) ?_ ?_
                        rotate_left
                        ·intro w'
                         go_simp
                         with_reducible rfl
                        rotate_left
                        ·simp only [Act.put, zA, zB, zC, i64_w, i32_w]
                         rfl
                        refine pure_ (i := 16) (N := some 16) (v := ?_) (a' := ?_) w12_ActShuts.b17 rfl rfl (any_of HT_.out (by kernel_rfl)) (fun _ _ _ h => h) (Or.inl ⟨by rfl, ?_⟩) ?_ ?_
                        rotate_left
                        ·intro w'
                         go_simp
                         with_reducible rfl
                        rotate_left
                        ·simp only [Act.put, zA, zB, zC, i64_w, i32_w]
                         rfl
                        refine done_ (done_of HT_.out (by kernel_rfl)) ?_
                        try go_wp2
                        have n0_ := zK (zN HO_7.out)
                        have n1_ := zK (zN HO_8.out)
                        have n2_ := zK (zN HO_10.out)
                        have n3_ := zK (zN HO_12.out)
                        have n4_ := zK (zN HO497.out)
                        have n5_ := zK (zH Z0.out)
                        have n6_ := zK (zE HB.out)
                        clear HO_7 HO_8 HO_10 HO_12 HO497 Z0 HB
                        have HO_7 := n0_; have HO_8 := n1_; have HO_10 := n2_; have HO_12 := n3_; have HO497 := n4_; have Z0 := n5_; have HB := n6_
                        clear n0_ n1_ n2_ n3_ n4_ n5_ n6_
                        have p498 : 0 ≤ (x90_4 : Int) := yB (by first | (with_reducible assumption) | assumption)
                        have q498 : x90_4 < (t480.length : Int) := yB (by first | (with_reducible assumption) | assumption)
                        (try (obtain ⟨Ai498, ci498, ei498⟩ := Kd.R_slice HO_8.out; subst ei498))
                        obtain ⟨ad498, e498, hx498_0⟩ := Kd.at_int (yM HO_8.out).2.2 x90_4 p498 q498
                        cases e498
                        replace p498 := yg p498
                        replace q498 := yg q498
                        obtain ⟨Ao68, co68, eo68⟩ := Kd.R_slice HO497.out
                        (first | subst eo68 | (injection eo68 with f1_ f2_ f3_; have f4_ := f1_.symm; have f5_ := f3_.symm; clear f1_ f2_ f3_; subst f4_; subst f5_))
                        refine start_ (n := 24) (S := fun w' => w'.cell? (ad498.add (x90_4).toNat) = some (.int .i8 (rd t480 x90_4))) (ds := []) w12_ActShuts.b18 (by kernel_rfl) rfl rfl (hx498_0) (fun hHeld => ?_); refine with_tabW w12_ActShuts.tab19 w12_ActShuts.bits19 (fun HT_ HW_ => ?_)
                        generalize w66.drew = w67 at HO_7 HO_8 HO_10 HO_12 HO497 Z0 HB hx498_0 hHeld ⊢
                        refine pure_ (i := 0) (N := some 108) (v := ?_) (a' := ?_) w12_ActShuts.b19 rfl rfl (any_of HT_.out (by kernel_rfl)) (fun _ _ _ h => h) (Or.inl ⟨by rfl, ?_⟩) ?_ ?_
                        rotate_left
                        ·intro w'
                         go_simp
                         with_reducible rfl
                        rotate_left
                        ·simp only [Act.put, zA, zB, zC, i64_w, i32_w]
                         rfl
                        refine pure_ (i := 1) (N := some 109) (v := ?_) (a' := ?_) w12_ActShuts.b20 rfl rfl (any_of HT_.out (by kernel_rfl)) (fun _ _ _ h => h) (Or.inl ⟨by rfl, ?_⟩) ?_ ?_
                        rotate_left
                        ·intro w'
                         go_simp
                         with_reducible rfl
                        rotate_left
                        ·simp only [Act.put, zA, zB, zC, i64_w, i32_w]
                         rfl
                        refine pure_ (i := 2) (N := some 110) (v := ?_) (a' := ?_) w12_ActShuts.b21 rfl rfl (any_of HT_.out (by kernel_rfl)) (fun _ _ _ h => h) (Or.inl ⟨by rfl, ?_⟩) ?_ ?_
                        rotate_left
                        ·intro w'
                         go_simp
                         with_reducible rfl
                        rotate_left
                        ·simp only [Act.put, zA, zB, zC, i64_w, i32_w]
                         rfl
                        refine take_ (i := 3) (N := some 111) (v := ?_) (a' := ?_) w12_ActShuts.b22 rfl rfl (take_ofW HT_.out HW_.out (by kernel_rfl)) (fun _ _ _ h => h) (Or.inl ⟨by rfl, ?_⟩) hHeld ?_ ?_
                        rotate_left
                        ·intro w' s0
                         go_simp
                         with_reducible rfl
                        rotate_left
                        ·simp only [Act.put, zA, zB, zC, i64_w, i32_w]
                         rfl
                        refine pure_ (i := 4) (N := some 112) (v := ?_) (a' := ?_) w12_ActShuts.b23 rfl rfl (any_of HT_.out (by kernel_rfl)) (fun _ _ _ h => h) (Or.inl ⟨by rfl, ?_⟩) ?_ ?_
                        rotate_left
                        ·intro w'
                         go_simp
                         with_reducible rfl
                        rotate_left
                        ·simp only [Act.put, zA, zB, zC, i64_w, i32_w]
                         rfl
                        refine pure_ (i := 5) (N := some 113) (v := ?_) (a' := ?_) w12_ActShuts.b24 rfl rfl (any_of HT_.out (by kernel_rfl)) (fun _ _ _ h => h) (Or.inl ⟨by rfl, ?_⟩) ?_ ?_
                        rotate_left
                        ·intro w'
                         go_simp
                         with_reducible rfl
                        rotate_left
                        ·simp only [Act.put, zA, zB, zC, i64_w, i32_w]
                         rfl
                        refine pure_ (i := 6) (N := some 114) (v := ?_) (a' := ?_) w12_ActShuts.b25 rfl rfl (any_of HT_.out (by kernel_rfl)) (fun _ _ _ h => h) (Or.inl ⟨by rfl, ?_⟩) ?_ ?_
                        rotate_left
                        ·intro w'
                         go_simp
                         with_reducible rfl
                        rotate_left
                        ·simp only [Act.put, zA, zB, zC, i64_w, i32_w]
                         rfl
                        refine pure_ (i := 7) (N := some 115) (v := ?_) (a' := ?_) w12_ActShuts.b26 rfl rfl (any_of HT_.out (by kernel_rfl)) (fun _ _ _ h => h) (Or.inl ⟨by rfl, ?_⟩) ?_ ?_
                        rotate_left
                        ·intro w'
                         go_simp
                         with_reducible rfl
                        rotate_left
                        ·simp only [Act.put, zA, zB, zC, i64_w, i32_w]
                         rfl
                        refine pure_ (i := 8) (N := some 116) (v := ?_) (a' := ?_) w12_ActShuts.b27 rfl rfl (any_of HT_.out (by kernel_rfl)) (fun _ _ _ h => h) (Or.inl ⟨by rfl, ?_⟩) ?_ ?_
                        rotate_left
                        ·intro w'
                         go_simp
                         with_reducible rfl
                        rotate_left
                        ·simp only [Act.put, zA, zB, zC, i64_w, i32_w]
                         rfl
                        refine pure_ (i := 9) (N := some 117) (v := ?_) (a' := ?_) w12_ActShuts.b28 rfl rfl (any_of HT_.out (by kernel_rfl)) (fun _ _ _ h => h) (Or.inl ⟨by rfl, ?_⟩) ?_ ?_
                        rotate_left
                        ·intro w'
                         go_simp
                         with_reducible rfl
                        rotate_left
                        ·simp only [Act.put, zA, zB, zC, i64_w, i32_w]
                         rfl
                        refine pure_ (i := 10) (N := some 118) (v := ?_) (a' := ?_) w12_ActShuts.b29 rfl rfl (any_of HT_.out (by kernel_rfl)) (fun _ _ _ h => h) (Or.inl ⟨by rfl, ?_⟩) ?_ ?_
                        rotate_left
                        ·intro w'
                         go_simp
                         with_reducible rfl
                        rotate_left
                        ·simp only [Act.put, zA, zB, zC, i64_w, i32_w]
                         rfl
                        refine pure_ (i := 11) (N := some 119) (v := ?_) (a' := ?_) w12_ActShuts.b30 rfl rfl (any_of HT_.out (by kernel_rfl)) (fun _ _ _ h => h) (Or.inl ⟨by rfl, ?_⟩) ?_ ?_
                        rotate_left
                        ·intro w'
                         go_simp
                         with_reducible rfl
                        rotate_left
                        ·simp only [Act.put, zA, zB, zC, i64_w, i32_w]
                         rfl
                        refine pure_ (i := 12) (N := some 120) (v := ?_) (a' := ?_) w12_ActShuts.b31 rfl rfl (any_of HT_.out (by kernel_rfl)) (fun _ _ _ h => h) (Or.inl ⟨by rfl, ?_⟩) ?_ ?_
                        rotate_left
                        ·intro w'
                         go_simp
                         with_reducible rfl
                        rotate_left
                        ·simp only [Act.put, zA, zB, zC, i64_w, i32_w]
                         rfl
                        refine pure_ (i := 13) (N := some 121) (v := ?_) (a' := ?_) w12_ActShuts.b32 rfl rfl (any_of HT_.out (by kernel_rfl)) (fun _ _ _ h => h) (Or.inl ⟨by rfl, ?_⟩) ?_ ?_
                        rotate_left
                        ·intro w'
                         go_simp
                         with_reducible rfl
                        rotate_left
                        ·simp only [Act.put, zA, zB, zC, i64_w, i32_w]
                         rfl
                        refine pure_ (i := 14) (N := some 122) (v := ?_) (a' := ?_) w12_ActShuts.b33 rfl rfl (any_of HT_.out (by kernel_rfl)) (fun _ _ _ h => h) (Or.inl ⟨by rfl, ?_⟩) ?_ ?_
                        rotate_left
                        ·intro w'
                         go_simp
                         with_reducible rfl
                        rotate_left
                        ·simp only [Act.put, zA, zB, zC, i64_w, i32_w]
                         rfl
                        refine pure_ (i := 15) (N := some 123) (v := undef) (a' := ?_) w12_ActShuts.b34 rfl rfl (any_of HT_.out (by kernel_rfl)) (fun _ _ _ h => h) (Or.inr ⟨by rfl, rfl⟩) ?_ ?_
                        rotate_left
                        ·simp only [Act.put, zA, zB, zC, i64_w, i32_w]
                         rfl
                        refine pure_ (i := 16) (N := some 124) (v := undef) (a' := ?_) w12_ActShuts.b35 rfl rfl (any_of HT_.out (by kernel_rfl)) (fun _ _ _ h => h) (Or.inr ⟨by rfl, rfl⟩) ?_ ?_
                        rotate_left
                        ·simp only [Act.put, zA, zB, zC, i64_w, i32_w]
                         rfl
                        refine pure_ (i := 17) (N := some 125) (v := undef) (a' := ?_) w12_ActShuts.b43 rfl rfl (any_of HT_.out (by kernel_rfl)) (fun _ _ _ h => h) (Or.inr ⟨by rfl, rfl⟩) ?_ ?_
                        rotate_left
                        ·simp only [Act.put, zA, zB, zC, i64_w, i32_w]
                         rfl
                        refine pure_ (i := 18) (N := some 126) (v := undef) (a' := ?_) w12_ActShuts.b44 rfl rfl (any_of HT_.out (by kernel_rfl)) (fun _ _ _ h => h) (Or.inr ⟨by rfl, rfl⟩) ?_ ?_
                        rotate_left
                        ·simp only [Act.put, zA, zB, zC, i64_w, i32_w]
                         rfl
                        refine pure_ (i := 19) (N := some 127) (v := undef) (a' := ?_) w12_ActShuts.b45 rfl rfl (any_of HT_.out (by kernel_rfl)) (fun _ _ _ h => h) (Or.inr ⟨by rfl, rfl⟩) ?_ ?_
                        rotate_left
                        ·simp only [Act.put, zA, zB, zC, i64_w, i32_w]
                         rfl
                        refine pure_ (i := 20) (N := some 128) (v := undef) (a' := ?_) w12_ActShuts.b39 rfl rfl (any_of HT_.out (by kernel_rfl)) (fun _ _ _ h => h) (Or.inr ⟨by rfl, rfl⟩) ?_ ?_
                        rotate_left
                        ·simp only [Act.put, zA, zB, zC, i64_w, i32_w]
                         rfl
                        refine pure_ (i := 21) (N := some 129) (v := undef) (a' := ?_) w12_ActShuts.b40 rfl rfl (any_of HT_.out (by kernel_rfl)) (fun _ _ _ h => h) (Or.inr ⟨by rfl, rfl⟩) ?_ ?_
                        rotate_left
                        ·simp only [Act.put, zA, zB, zC, i64_w, i32_w]
                         rfl
                        refine pure_ (i := 22) (N := some 130) (v := undef) (a' := ?_) w12_ActShuts.b41 rfl rfl (any_of HT_.out (by kernel_rfl)) (fun _ _ _ h => h) (Or.inr ⟨by rfl, rfl⟩) ?_ ?_
                        rotate_left
                        ·simp only [Act.put, zA, zB, zC, i64_w, i32_w]
                         rfl
                        refine pure_ (i := 23) (N := some 131) (v := ?_) (a' := ?_) w12_ActShuts.b42 rfl rfl (any_of HT_.out (by kernel_rfl)) (fun _ _ _ h => h) (Or.inl ⟨by rfl, ?_⟩) ?_ ?_
                        rotate_left
                        ·intro w'
                         go_simp
                         with_reducible rfl
                        rotate_left
                        ·simp only [Act.put, zA, zB, zC, i64_w, i32_w]
                         rfl
                        refine done_ (done_of HT_.out (by kernel_rfl)) ?_
                        try go_wp2
                        go_ret
                        exact ⟨by first | rfl | (simp [errW_none, errW_some] <;> rfl) | (simp [*, errW_none, errW_some] <;> rfl), by repeat (first | (with_reducible first | exact HB.out | apply zJ | apply zD | apply zE | refine zI ?_ Z1.out) | exact HB.out)⟩
                      ·rw [if_neg c44] at H
                       have c44b0 : (t495 == 0) = false := beq_eq_false_iff_ne.mpr c44
                       have c44b1 : (t495 != 0) = true := bne_iff_ne.mpr c44
                       obtain rfl := yY H
                       try go_wp2
                       have n0_ := zK (zN HO_7.out)
                       have n1_ := zK (zN HO_8.out)
                       have n2_ := zK (zN HO_10.out)
                       have n3_ := zK (zN HO_12.out)
                       have n4_ := zK (zH Z0.out)
                       have n5_ := zK (zE HB.out)
                       clear HO_7 HO_8 HO_10 HO_12 Z0 HB
                       have HO_7 := n0_; have HO_8 := n1_; have HO_10 := n2_; have HO_12 := n3_; have Z0 := n4_; have HB := n5_
                       clear n0_ n1_ n2_ n3_ n4_ n5_
                       obtain ⟨i070, hi070, _, hsz70, _⟩ := yj info30
                       obtain ⟨A70, hcut70, hA70, hC70⟩ := print_mid_of (P := Try.prog) (Value.int .i8) 0 23 30 .i64 .i64 Try.underlying23 hi070 hsz70 A0 c0 l0 x90_4 (wrap64 (x90_4 + 1)) (yB (by first | (with_reducible assumption) | assumption)) (by first | omega | exact yB (by first | (with_reducible assumption) | assumption)) (yB (by first | (with_reducible assumption) | assumption)) HC0.out
                       have HR492 := zK (Kd.C_of_reads (h1 := fun _ => rfl) (hA70 _ (Kd.reads_of_C HR0.out)))
                       have HC492 := zK hC70
                       clear hA70 hC70 hi070 hsz70
                       obtain ⟨i071, hi071, _, hsz71, _⟩ := yj info30
                       obtain ⟨A71, hcut71, hA71, hC71⟩ := print_mid_of (P := Try.prog) (Value.int .i8) 0 23 30 .i64 .i64 Try.underlying23 hi071 hsz71 A1 c1 l1 x90_4 (wrap64 (x90_4 + 1)) (yB (by first | (with_reducible assumption) | assumption)) (by first | omega | exact yB (by first | (with_reducible assumption) | assumption)) (yB (by first | (with_reducible assumption) | assumption)) HC1.out
                       have HR493 := zK (Kd.C_of_reads (h1 := fun _ => rfl) (hA71 _ (Kd.reads_of_C HR1.out)))
                       have HC493 := zK hC71
                       clear hA71 hC71 hi071 hsz71
                       refine start_ (n := 17) (S := fun w' => True) (ds := []) w12_ActShuts.b0 (by kernel_rfl) rfl rfl trivial (fun hHeld => ?_); refine with_tabW w12_ActShuts.tab18 w12_ActShuts.bits18 (fun HT_ HW_ => ?_)
                       generalize wr.drew = w69 at HO_7 HO_8 HO_10 HO_12 Z0 HB HR492 HR493 hHeld ⊢
                       refine pure_ (i := 0) (N := some 94) (v := ?_) (a' := ?_) w12_ActShuts.b1 rfl rfl (any_of HT_.out (by kernel_rfl)) (fun _ _ _ h => h) (Or.inl ⟨by rfl, ?_⟩) ?_ ?_
                       rotate_left
                       ·intro w'
                        go_simp
                        with_reducible rfl
                       rotate_left
                       ·simp only [Act.put, zA, zB, zC, i64_w, i32_w]
                        rfl
                       refine pure_ (i := 1) (N := some 95) (v := ?_) (a' := ?_) w12_ActShuts.b2 rfl rfl (any_of HT_.out (by kernel_rfl)) (fun _ _ _ h => h) (Or.inl ⟨by rfl, ?_⟩) ?_ ?_
                       rotate_left
                       ·intro w'
                        go_simp
                        with_reducible rfl
                       rotate_left
                       ·simp only [Act.put, zA, zB, zC, i64_w, i32_w]
                        rfl
                       refine pure_ (i := 2) (N := some 96) (v := ?_) (a' := ?_) w12_ActShuts.b3 rfl rfl (any_of HT_.out (by kernel_rfl)) (fun _ _ _ h => h) (Or.inl ⟨by rfl, ?_⟩) ?_ ?_
                       rotate_left
                       ·intro w'
                        go_simp
                        with_reducible rfl
                       rotate_left
                       ·simp only [Act.put, zA, zB, zC, i64_w, i32_w]
                        rfl
                       refine pure_ (i := 3) (N := some 97) (v := ?_) (a' := ?_) w12_ActShuts.b4 rfl rfl (any_of HT_.out (by kernel_rfl)) (fun _ _ _ h => h) (Or.inl ⟨by rfl, ?_⟩) ?_ ?_
                       rotate_left
                       ·intro w'
                        go_simp
                        with_reducible rfl
                       rotate_left
                       ·simp only [Act.put, zA, zB, zC, i64_w, i32_w]
                        rfl
                       refine pure_ (i := 4) (N := some 98) (v := ?_) (a' := ?_) w12_ActShuts.b5 rfl rfl (any_of HT_.out (by kernel_rfl)) (fun _ _ _ h => h) (Or.inl ⟨by rfl, ?_⟩) ?_ ?_
                       rotate_left
                       ·intro w'
                        go_simp
                        with_reducible rfl
                       rotate_left
                       ·simp only [Act.put, zA, zB, zC, i64_w, i32_w]
                        rfl
                       refine pure_ (i := 5) (N := some 99) (v := ?_) (a' := ?_) w12_ActShuts.b6 rfl rfl (any_of HT_.out (by kernel_rfl)) (fun _ _ _ h => h) (Or.inl ⟨by rfl, ?_⟩) ?_ ?_
                       rotate_left
                       ·intro w'
                        go_simp
                        with_reducible rfl
                       rotate_left
                       ·simp only [Act.put, zA, zB, zC, i64_w, i32_w]
                        rfl
                       refine pure_ (i := 6) (N := some 100) (v := ?_) (a' := ?_) w12_ActShuts.b7 rfl rfl (any_of HT_.out (by kernel_rfl)) (fun _ _ _ h => h) (Or.inl ⟨by rfl, ?_⟩) ?_ ?_
                       rotate_left
                       ·intro w'
                        go_simp
                        with_reducible rfl
                       rotate_left
                       ·simp only [Act.put, zA, zB, zC, i64_w, i32_w]
                        rfl
                       refine pure_ (i := 7) (N := some 101) (v := ?_) (a' := ?_) w12_ActShuts.b8 rfl rfl (any_of HT_.out (by kernel_rfl)) (fun _ _ _ h => h) (Or.inl ⟨by rfl, ?_⟩) ?_ ?_
                       rotate_left
                       ·intro w'
                        go_simp
                        with_reducible rfl
                       rotate_left
                       ·simp only [Act.put, zA, zB, zC, i64_w, i32_w]
                        rfl
                       refine pure_ (i := 8) (N := some 102) (v := ?_) (a' := ?_) w12_ActShuts.b9 rfl rfl (any_of HT_.out (by kernel_rfl)) (fun _ _ _ h => h) (Or.inl ⟨by rfl, ?_⟩) ?_ ?_
                       rotate_left
                       ·intro w'
                        go_simp
                        with_reducible rfl
                       rotate_left
                       ·simp only [Act.put, zA, zB, zC, i64_w, i32_w]
                        rfl
                       refine pure_ (i := 9) (N := some 103) (v := ?_) (a' := ?_) w12_ActShuts.b10 rfl rfl (any_of HT_.out (by kernel_rfl)) (fun _ _ _ h => h) (Or.inl ⟨by rfl, ?_⟩) ?_ ?_
                       rotate_left
                       ·intro w'
                        go_simp
                        with_reducible rfl
                       rotate_left
                       ·simp only [Act.put, zA, zB, zC, i64_w, i32_w]
                        rfl
                       refine pure_ (i := 10) (N := some 104) (v := ?_) (a' := ?_) w12_ActShuts.b11 rfl rfl (any_of HT_.out (by kernel_rfl)) (fun _ _ _ h => h) (Or.inl ⟨by rfl, ?_⟩) ?_ ?_
                       rotate_left
                       ·intro w'
                        go_simp
                        with_reducible rfl
                       rotate_left
                       ·simp only [Act.put, zA, zB, zC, i64_w, i32_w]
                        rfl
                       refine one_ (i := 11) (N := some 105) w12_ActShuts.b12 rfl rfl (one_of HT_.out (by kernel_rfl)) (by decide) (fun K hK => ?_)
                       refine goes_ Try.func14 (by kernel_rfl) rfl #[.slice Ao28 t484.length co28, .slice A70 ((l0.take ((wrap64 (x90_4 + 1)) : Int).toNat).drop (x90_4 : Int).toNat).length (c0 - x90_4.toNat), .slice A71 ((l1.take ((wrap64 (x90_4 + 1)) : Int).toNat).drop (x90_4 : Int).toNat).length (c1 - x90_4.toNat)] (by rfl) rfl rfl (by (try simp only [yH, yI, yJ]); first | done | (rw [show ((l0.take ((wrap64 (x90_4 + 1)) : Int).toNat).drop (x90_4 : Int).toNat).length = ((wrap64 (x90_4 + 1)).toNat - x90_4.toNat) from (by rw [yG, yF]; have h_ : ((wrap64 (x90_4 + 1)) : Int) ≤ (l0.length : Int) := yB (by first | (with_reducible assumption) | assumption); omega), show ((l1.take ((wrap64 (x90_4 + 1)) : Int).toNat).drop (x90_4 : Int).toNat).length = ((wrap64 (x90_4 + 1)).toNat - x90_4.toNat) from (by rw [yG, yF]; have h_ : ((wrap64 (x90_4 + 1)) : Int) ≤ (l1.length : Int) := yB (by first | (with_reducible assumption) | assumption); omega)] <;> rfl) | (rw [show ((l0.take ((wrap64 (x90_4 + 1)) : Int).toNat).drop (x90_4 : Int).toNat).length = ((wrap64 (x90_4 + 1)).toNat - x90_4.toNat) from (by rw [yG, yF]; have h_ : ((wrap64 (x90_4 + 1)) : Int) ≤ (l0.length : Int) := yB (by first | (with_reducible assumption) | assumption); omega)] <;> rfl) | (rw [show ((l1.take ((wrap64 (x90_4 + 1)) : Int).toNat).drop (x90_4 : Int).toNat).length = ((wrap64 (x90_4 + 1)).toNat - x90_4.toNat) from (by rw [yG, yF]; have h_ : ((wrap64 (x90_4 + 1)) : Int) ≤ (l1.length : Int) := yB (by first | (with_reducible assumption) | assumption); omega)] <;> rfl) | rfl | (simp only [yG, yF]; rfl)) ?_
                       with_reducible refine (act_Gate.calls k4 _ _ t484 _ _ ((l0.take ((wrap64 (x90_4 + 1)) : Int).toNat).drop (x90_4 : Int).toNat) _ _ ((l1.take ((wrap64 (x90_4 + 1)) : Int).toNat).drop (x90_4 : Int).toNat) t494 t495 _ ?side1 ?side2 ?side3 ?side4 ?side5 ?side6 A41.out).mono ?_
                       (case side1 => repeat (first | exact (yM HO_10.out).2.2 | (with_reducible refine yS ?_ _) | (with_reducible refine yT ?_ _) | (with_reducible refine yU ?_)))
                       (case side2 => exact (yM HO_10.out).2.1)
                       (case side3 => repeat (first | exact (yc HR492.out HB.out) | (with_reducible refine yS ?_ _) | (with_reducible refine yT ?_ _) | (with_reducible refine yU ?_)))
                       (case side4 => exact HC492.out)
                       (case side5 => repeat (first | exact (yc HR493.out HB.out) | (with_reducible refine yS ?_ _) | (with_reducible refine yT ?_ _) | (with_reducible refine yU ?_)))
                       (case side6 => exact HC493.out)
                       rintro e w72 ⟨v496, rfl, ho0, hb⟩
                       refine ⟨_, rfl, ?_⟩
                       have n0_ := zK (Kd.R_elder' (by (with_reducible repeat (first | apply zL | apply zM | apply zN)); exact HO_7.out) (Kd.R_base ho0) hb)
                       have n1_ := zK (Kd.R_elder' (by (with_reducible repeat (first | apply zL | apply zM | apply zN)); exact HO_8.out) (Kd.R_base ho0) hb)
                       have n2_ := zK (Kd.R_elder' (by (with_reducible repeat (first | apply zL | apply zM | apply zN)); exact HO_10.out) (Kd.R_base ho0) hb)
                       have n3_ := zK (Kd.R_elder' (by (with_reducible repeat (first | apply zL | apply zM | apply zN)); exact HO_12.out) (Kd.R_base ho0) hb)
                       have n4_ := zK (Kd.R_lower (Kd.R_new' (Kd.R_new' (Kd.R_new' (Kd.R_new' ho0 (Kd.R_lt (by (with_reducible repeat (first | apply zL | apply zM | apply zN)); exact HO_7.out))) (Kd.R_lt (by (with_reducible repeat (first | apply zL | apply zM | apply zN)); exact HO_8.out))) (Kd.R_lt (by (with_reducible repeat (first | apply zL | apply zM | apply zN)); exact HO_10.out))) (Kd.R_lt (by (with_reducible repeat (first | apply zL | apply zM | apply zN)); exact HO_12.out))) (yK (by repeat (first | (with_reducible first | exact HB.out | apply zJ | apply zD | apply zE | refine zI ?_ Z1.out) | exact HB.out))))
                       have n5_ := zK (zP (g := Z3) (o := .cells #[.slice A2_0 l2_0.length c2_0, .slice A2_1 l2_1.length c2_1, .slice A2_2 l2_2.length c2_2, .int .i64 a2_3, .int .i64 a2_4, .int .i64 a2_5] 36 (0, 0)) (by (with_reducible repeat (first | refine zF ?_ _ | refine zH ?_ | refine zG ?_ _)); exact Z0.out) hb)
                       have n6_ := zK (yL (by repeat (first | (with_reducible first | exact HB.out | apply zJ | apply zD | apply zE | refine zI ?_ Z1.out) | exact HB.out)) hb)
                       clear HO_7 HO_8 HO_10 HO_12 Z0 HB
                       have HO_7 := n0_; have HO_8 := n1_; have HO_10 := n2_; have HO_12 := n3_; have HO497 := n4_; have Z0 := n5_; have HB := n6_
                       clear n0_ n1_ n2_ n3_ n4_ n5_ n6_
                       (try clear hb)
                       (try clear hb2)
                       (try clear hk)
                       (try clear hi)
                       (try clear ho0)
                       refine hK.out _ _ trivial (fun hHeld => ?_)
                       clear hK K
                       refine norm_ (a' := ?_) ?_ ?_
                       rotate_left
                       ·show Act.put _ (some 105) _ = _
                        simp only [Act.put, zA, zB, zC, i64_w, i32_w]
                        rfl
                       refine pure_ (i := 12) (N := some 93) (v := ?_) (a' := ?_) w12_ActShuts.b13 rfl rfl (any_of HT_.out (by kernel_rfl)) (fun _ _ _ h => h) (Or.inl ⟨by rfl, ?_⟩) ?_ ?_
                       rotate_left
                       ·intro w'
                        go_simp
                        with_reducible rfl
                       rotate_left
                       ·simp only [Act.put, zA, zB, zC, i64_w, i32_w]
                        rfl
                       refine pure_ (i := 13) (N := some 106) (v := ?_) (a' := ?_) w12_ActShuts.b14 rfl rfl (any_of HT_.out (by kernel_rfl)) (fun _ _ _ h => h) (Or.inl ⟨by rfl, ?_⟩) ?_ ?_
                       rotate_left
                       ·intro w'
                        go_simp
                        with_reducible rfl
                       rotate_left
                       ·simp only [Act.put, zA, zB, zC, i64_w, i32_w]
                        rfl
                       refine pure_ (i := 14) (N := some 107) (v := ?_) (a' := ?_) w12_ActShuts.b15 rfl rfl (any_of HT_.out (by kernel_rfl)) (fun _ _ _ h => h) (Or.inl ⟨by rfl, ?_⟩) ?_ ?_
                       rotate_left
                       ·intro w'
                        go_simp
                        with_reducible rfl
                       rotate_left
                       ·simp only [Act.put, zA, zB, zC, i64_w, i32_w]
                        rfl
                       refine pure_ (i := 15) (N := some 15) (v := ?_) (a' := ?_) w12_ActShuts.b16 rfl rfl (any_of HT_.out (by kernel_rfl)) (fun _ _ _ h => h) (Or.inl ⟨by rfl, ?_⟩) ?_ ?_
                       rotate_left
                       ·intro w'
                        go_simp
                        with_reducible rfl
                       rotate_left
                       ·simp only [Act.put, zA, zB, zC, i64_w, i32_w]
                        rfl
                       refine pure_ (i := 16) (N := some 16) (v := ?_) (a' := ?_) w12_ActShuts.b17 rfl rfl (any_of HT_.out (by kernel_rfl)) (fun _ _ _ h => h) (Or.inl ⟨by rfl, ?_⟩) ?_ ?_
                       rotate_left
                       ·intro w'
                        go_simp
                        with_reducible rfl
                       rotate_left
                       ·simp only [Act.put, zA, zB, zC, i64_w, i32_w]
                        rfl
                       refine done_ (done_of HT_.out (by kernel_rfl)) ?_
                       try go_wp2
                       have n0_ := zK (zN HO_7.out)
                       have n1_ := zK (zN HO_8.out)
                       have n2_ := zK (zN HO_10.out)
                       have n3_ := zK (zN HO_12.out)
                       have n4_ := zK (zN HO497.out)
                       have n5_ := zK (zH Z0.out)
                       have n6_ := zK (zE HB.out)
                       clear HO_7 HO_8 HO_10 HO_12 HO497 Z0 HB
                       have HO_7 := n0_; have HO_8 := n1_; have HO_10 := n2_; have HO_12 := n3_; have HO497 := n4_; have Z0 := n5_; have HB := n6_
                       clear n0_ n1_ n2_ n3_ n4_ n5_ n6_
                       have p498 : 0 ≤ (x90_4 : Int) := yB (by first | (with_reducible assumption) | assumption)
                       have q498 : x90_4 < (t480.length : Int) := yB (by first | (with_reducible assumption) | assumption)
                       (try (obtain ⟨Ai498, ci498, ei498⟩ := Kd.R_slice HO_8.out; subst ei498))
                       obtain ⟨ad498, e498, hx498_0⟩ := Kd.at_int (yM HO_8.out).2.2 x90_4 p498 q498
                       cases e498
                       replace p498 := yg p498
                       replace q498 := yg q498
                       refine start_ (n := 24) (S := fun w' => w'.cell? (ad498.add (x90_4).toNat) = some (.int .i8 (rd t480 x90_4))) (ds := []) w12_ActShuts.b18 (by kernel_rfl) rfl rfl (hx498_0) (fun hHeld => ?_); refine with_tabW w12_ActShuts.tab19 w12_ActShuts.bits19 (fun HT_ HW_ => ?_)
                       generalize w72.drew = w73 at HO_7 HO_8 HO_10 HO_12 HO497 Z0 HB hx498_0 hHeld ⊢
                       refine pure_ (i := 0) (N := some 108) (v := ?_) (a' := ?_) w12_ActShuts.b19 rfl rfl (any_of HT_.out (by kernel_rfl)) (fun _ _ _ h => h) (Or.inl ⟨by rfl, ?_⟩) ?_ ?_
                       rotate_left
                       ·intro w'
                        go_simp
                        with_reducible rfl
                       rotate_left
                       ·simp only [Act.put, zA, zB, zC, i64_w, i32_w]
                        rfl
                       refine pure_ (i := 1) (N := some 109) (v := ?_) (a' := ?_) w12_ActShuts.b20 rfl rfl (any_of HT_.out (by kernel_rfl)) (fun _ _ _ h => h) (Or.inl ⟨by rfl, ?_⟩) ?_ ?_
                       rotate_left
                       ·intro w'
                        go_simp
                        with_reducible rfl
                       rotate_left
                       ·simp only [Act.put, zA, zB, zC, i64_w, i32_w]
                        rfl
                       refine pure_ (i := 2) (N := some 110) (v := ?_) (a' := ?_) w12_ActShuts.b21 rfl rfl (any_of HT_.out (by kernel_rfl)) (fun _ _ _ h => h) (Or.inl ⟨by rfl, ?_⟩) ?_ ?_
                       rotate_left
                       ·intro w'
                        go_simp
                        with_reducible rfl
                       rotate_left
                       ·simp only [Act.put, zA, zB, zC, i64_w, i32_w]
                        rfl
                       refine take_ (i := 3) (N := some 111) (v := ?_) (a' := ?_) w12_ActShuts.b22 rfl rfl (take_ofW HT_.out HW_.out (by kernel_rfl)) (fun _ _ _ h => h) (Or.inl ⟨by rfl, ?_⟩) hHeld ?_ ?_
                       rotate_left
                       ·intro w' s0
                        go_simp
                        with_reducible rfl
                       rotate_left
                       ·simp only [Act.put, zA, zB, zC, i64_w, i32_w]
                        rfl
                       refine pure_ (i := 4) (N := some 112) (v := ?_) (a' := ?_) w12_ActShuts.b23 rfl rfl (any_of HT_.out (by kernel_rfl)) (fun _ _ _ h => h) (Or.inl ⟨by rfl, ?_⟩) ?_ ?_
                       rotate_left
                       ·intro w'
                        go_simp
                        with_reducible rfl
                       rotate_left
                       ·simp only [Act.put, zA, zB, zC, i64_w, i32_w]
                        rfl
                       refine pure_ (i := 5) (N := some 113) (v := ?_) (a' := ?_) w12_ActShuts.b24 rfl rfl (any_of HT_.out (by kernel_rfl)) (fun _ _ _ h => h) (Or.inl ⟨by rfl, ?_⟩) ?_ ?_
                       rotate_left
                       ·intro w'
                        go_simp
                        with_reducible rfl
                       rotate_left
                       ·simp only [Act.put, zA, zB, zC, i64_w, i32_w]
                        rfl
                       refine pure_ (i := 6) (N := some 114) (v := ?_) (a' := ?_) w12_ActShuts.b25 rfl rfl (any_of HT_.out (by kernel_rfl)) (fun _ _ _ h => h) (Or.inl ⟨by rfl, ?_⟩) ?_ ?_
                       rotate_left
                       ·intro w'
                        go_simp
                        with_reducible rfl
                       rotate_left
                       ·simp only [Act.put, zA, zB, zC, i64_w, i32_w]
                        rfl
                       refine pure_ (i := 7) (N := some 115) (v := ?_) (a' := ?_) w12_ActShuts.b26 rfl rfl (any_of HT_.out (by kernel_rfl)) (fun _ _ _ h => h) (Or.inl ⟨by rfl, ?_⟩) ?_ ?_
                       rotate_left
                       ·intro w'
                        go_simp
                        with_reducible rfl
                       rotate_left
                       ·simp only [Act.put, zA, zB, zC, i64_w, i32_w]
                        rfl
                       refine pure_ (i := 8) (N := some 116) (v := ?_) (a' := ?_) w12_ActShuts.b27 rfl rfl (any_of HT_.out (by kernel_rfl)) (fun _ _ _ h => h) (Or.inl ⟨by rfl, ?_⟩) ?_ ?_
                       rotate_left
                       ·intro w'
                        go_simp
                        with_reducible rfl
                       rotate_left
                       ·simp only [Act.put, zA, zB, zC, i64_w, i32_w]
                        rfl
                       refine pure_ (i := 9) (N := some 117) (v := ?_) (a' := ?_) w12_ActShuts.b28 rfl rfl (any_of HT_.out (by kernel_rfl)) (fun _ _ _ h => h) (Or.inl ⟨by rfl, ?_⟩) ?_ ?_
                       rotate_left
                       ·intro w'
                        go_simp
                        with_reducible rfl
                       rotate_left
                       ·simp only [Act.put, zA, zB, zC, i64_w, i32_w]
                        rfl
                       refine pure_ (i := 10) (N := some 118) (v := undef) (a' := ?_) w12_ActShuts.b29 rfl rfl (any_of HT_.out (by kernel_rfl)) (fun _ _ _ h => h) (Or.inr ⟨by rfl, rfl⟩) ?_ ?_
                       rotate_left
                       ·simp only [Act.put, zA, zB, zC, i64_w, i32_w]
                        rfl
                       refine pure_ (i := 11) (N := some 119) (v := undef) (a' := ?_) w12_ActShuts.b30 rfl rfl (any_of HT_.out (by kernel_rfl)) (fun _ _ _ h => h) (Or.inr ⟨by rfl, rfl⟩) ?_ ?_
                       rotate_left
                       ·simp only [Act.put, zA, zB, zC, i64_w, i32_w]
                        rfl
                       refine pure_ (i := 12) (N := some 120) (v := undef) (a' := ?_) w12_ActShuts.b31 rfl rfl (any_of HT_.out (by kernel_rfl)) (fun _ _ _ h => h) (Or.inr ⟨by rfl, rfl⟩) ?_ ?_
                       rotate_left
                       ·simp only [Act.put, zA, zB, zC, i64_w, i32_w]
                        rfl
                       refine pure_ (i := 13) (N := some 121) (v := ?_) (a' := ?_) w12_ActShuts.b32 rfl rfl (any_of HT_.out (by kernel_rfl)) (fun _ _ _ h => h) (Or.inl ⟨by rfl, ?_⟩) ?_ ?_
                       rotate_left
                       ·intro w'
                        go_simp
                        with_reducible rfl
                       rotate_left
                       ·simp only [Act.put, zA, zB, zC, i64_w, i32_w]
                        rfl
                       refine pure_ (i := 14) (N := some 122) (v := ?_) (a' := ?_) w12_ActShuts.b33 rfl rfl (any_of HT_.out (by kernel_rfl)) (fun _ _ _ h => h) (Or.inl ⟨by rfl, ?_⟩) ?_ ?_
                       rotate_left
                       ·intro w'
                        go_simp
                        with_reducible rfl
                       rotate_left
                       ·simp only [Act.put, zA, zB, zC, i64_w, i32_w]
                        rfl
                       refine pure_ (i := 15) (N := some 123) (v := undef) (a' := ?_) w12_ActShuts.b34 rfl rfl (any_of HT_.out (by kernel_rfl)) (fun _ _ _ h => h) (Or.inr ⟨by rfl, rfl⟩) ?_ ?_
                       rotate_left
                       ·simp only [Act.put, zA, zB, zC, i64_w, i32_w]
                        rfl
                       refine pure_ (i := 16) (N := some 124) (v := undef) (a' := ?_) w12_ActShuts.b35 rfl rfl (any_of HT_.out (by kernel_rfl)) (fun _ _ _ h => h) (Or.inr ⟨by rfl, rfl⟩) ?_ ?_
                       rotate_left
                       ·simp only [Act.put, zA, zB, zC, i64_w, i32_w]
                        rfl
                       refine pure_ (i := 17) (N := some 125) (v := undef) (a' := ?_) w12_ActShuts.b43 rfl rfl (any_of HT_.out (by kernel_rfl)) (fun _ _ _ h => h) (Or.inr ⟨by rfl, rfl⟩) ?_ ?_
                       rotate_left
                       ·simp only [Act.put, zA, zB, zC, i64_w, i32_w]
                        rfl
                       refine pure_ (i := 18) (N := some 126) (v := undef) (a' := ?_) w12_ActShuts.b44 rfl rfl (any_of HT_.out (by kernel_rfl)) (fun _ _ _ h => h) (Or.inr ⟨by rfl, rfl⟩) ?_ ?_
                       rotate_left
                       ·simp only [Act.put, zA, zB, zC, i64_w, i32_w]
                        rfl
                       refine pure_ (i := 19) (N := some 127) (v := undef) (a' := ?_) w12_ActShuts.b45 rfl rfl (any_of HT_.out (by kernel_rfl)) (fun _ _ _ h => h) (Or.inr ⟨by rfl, rfl⟩) ?_ ?_
                       rotate_left
                       ·simp only [Act.put, zA, zB, zC, i64_w, i32_w]
                        rfl
                       refine pure_ (i := 20) (N := some 128) (v := undef) (a' := ?_) w12_ActShuts.b39 rfl rfl (any_of HT_.out (by kernel_rfl)) (fun _ _ _ h => h) (Or.inr ⟨by rfl, rfl⟩) ?_ ?_
                       rotate_left
                       ·simp only [Act.put, zA, zB, zC, i64_w, i32_w]
                        rfl
                       refine pure_ (i := 21) (N := some 129) (v := undef) (a' := ?_) w12_ActShuts.b40 rfl rfl (any_of HT_.out (by kernel_rfl)) (fun _ _ _ h => h) (Or.inr ⟨by rfl, rfl⟩) ?_ ?_
                       rotate_left
                       ·simp only [Act.put, zA, zB, zC, i64_w, i32_w]
                        rfl
                       refine pure_ (i := 22) (N := some 130) (v := undef) (a' := ?_) w12_ActShuts.b41 rfl rfl (any_of HT_.out (by kernel_rfl)) (fun _ _ _ h => h) (Or.inr ⟨by rfl, rfl⟩) ?_ ?_
                       rotate_left
                       ·simp only [Act.put, zA, zB, zC, i64_w, i32_w]
                        rfl
                       refine pure_ (i := 23) (N := some 131) (v := ?_) (a' := ?_) w12_ActShuts.b42 rfl rfl (any_of HT_.out (by kernel_rfl)) (fun _ _ _ h => h) (Or.inl ⟨by rfl, ?_⟩) ?_ ?_
                       rotate_left
                       ·intro w'
                        go_simp
                        with_reducible rfl
                       rotate_left
                       ·simp only [Act.put, zA, zB, zC, i64_w, i32_w]
                        rfl
                       refine done_ (done_of HT_.out (by kernel_rfl)) ?_
                       try go_wp2
                       go_ret
                       exact ⟨by first | rfl | (simp [errW_none, errW_some] <;> rfl) | (simp [*, errW_none, errW_some] <;> rfl), by repeat (first | (with_reducible first | exact HB.out | apply zJ | apply zD | apply zE | refine zI ?_ Z1.out) | exact HB.out)⟩
                     ·rw [if_neg c43] at H
                      have c43b0 : ((rd t480 x90_4) == 0) = false := beq_eq_false_iff_ne.mpr c43
                      have c43b1 : ((rd t480 x90_4) != 0) = true := bne_iff_ne.mpr c43
                      obtain rfl := yY H
                      try go_wp2
                      have n0_ := zK (zN HO_7.out)
                      have n1_ := zK (zN HO_8.out)
                      have n2_ := zK (zN HO_10.out)
                      have n3_ := zK (zN HO_12.out)
                      have n4_ := zK (zH Z0.out)
                      have n5_ := zK (zE HB.out)
                      clear HO_7 HO_8 HO_10 HO_12 Z0 HB
                      have HO_7 := n0_; have HO_8 := n1_; have HO_10 := n2_; have HO_12 := n3_; have Z0 := n4_; have HB := n5_
                      clear n0_ n1_ n2_ n3_ n4_ n5_
                      obtain ⟨i075, hi075, _, hsz75, _⟩ := yj info30
                      obtain ⟨A75, hcut75, hA75, hC75⟩ := print_mid_of (P := Try.prog) (Value.int .i8) 0 23 30 .i64 .i64 Try.underlying23 hi075 hsz75 A0 c0 l0 x90_4 (wrap64 (x90_4 + 1)) (yB (by first | (with_reducible assumption) | assumption)) (by first | omega | exact yB (by first | (with_reducible assumption) | assumption)) (yB (by first | (with_reducible assumption) | assumption)) HC0.out
                      have HR492 := zK (Kd.C_of_reads (h1 := fun _ => rfl) (hA75 _ (Kd.reads_of_C HR0.out)))
                      have HC492 := zK hC75
                      clear hA75 hC75 hi075 hsz75
                      obtain ⟨i076, hi076, _, hsz76, _⟩ := yj info30
                      obtain ⟨A76, hcut76, hA76, hC76⟩ := print_mid_of (P := Try.prog) (Value.int .i8) 0 23 30 .i64 .i64 Try.underlying23 hi076 hsz76 A1 c1 l1 x90_4 (wrap64 (x90_4 + 1)) (yB (by first | (with_reducible assumption) | assumption)) (by first | omega | exact yB (by first | (with_reducible assumption) | assumption)) (yB (by first | (with_reducible assumption) | assumption)) HC1.out
                      have HR493 := zK (Kd.C_of_reads (h1 := fun _ => rfl) (hA76 _ (Kd.reads_of_C HR1.out)))
                      have HC493 := zK hC76
                      clear hA76 hC76 hi076 hsz76
                      refine start_ (n := 17) (S := fun w' => True) (ds := []) w12_ActShuts.b0 (by kernel_rfl) rfl rfl trivial (fun hHeld => ?_); refine with_tabW w12_ActShuts.tab18 w12_ActShuts.bits18 (fun HT_ HW_ => ?_)
                      generalize wr.drew = w74 at HO_7 HO_8 HO_10 HO_12 Z0 HB HR492 HR493 hHeld ⊢
                      refine pure_ (i := 0) (N := some 94) (v := ?_) (a' := ?_) w12_ActShuts.b1 rfl rfl (any_of HT_.out (by kernel_rfl)) (fun _ _ _ h => h) (Or.inl ⟨by rfl, ?_⟩) ?_ ?_
                      rotate_left
                      ·intro w'
                       go_simp
                       with_reducible rfl
                      rotate_left
                      ·simp only [Act.put, zA, zB, zC, i64_w, i32_w]
                       rfl
                      refine pure_ (i := 1) (N := some 95) (v := ?_) (a' := ?_) w12_ActShuts.b2 rfl rfl (any_of HT_.out (by kernel_rfl)) (fun _ _ _ h => h) (Or.inl ⟨by rfl, ?_⟩) ?_ ?_
                      rotate_left
                      ·intro w'
                       go_simp
                       with_reducible rfl
                      rotate_left
                      ·simp only [Act.put, zA, zB, zC, i64_w, i32_w]
                       rfl
                      refine pure_ (i := 2) (N := some 96) (v := ?_) (a' := ?_) w12_ActShuts.b3 rfl rfl (any_of HT_.out (by kernel_rfl)) (fun _ _ _ h => h) (Or.inl ⟨by rfl, ?_⟩) ?_ ?_
                      rotate_left
                      ·intro w'
                       go_simp
                       with_reducible rfl
                      rotate_left
                      ·simp only [Act.put, zA, zB, zC, i64_w, i32_w]
                       rfl
                      refine pure_ (i := 3) (N := some 97) (v := ?_) (a' := ?_) w12_ActShuts.b4 rfl rfl (any_of HT_.out (by kernel_rfl)) (fun _ _ _ h => h) (Or.inl ⟨by rfl, ?_⟩) ?_ ?_
                      rotate_left
                      ·intro w'
                       go_simp
                       with_reducible rfl
                      rotate_left
                      ·simp only [Act.put, zA, zB, zC, i64_w, i32_w]
                       rfl
                      refine pure_ (i := 4) (N := some 98) (v := ?_) (a' := ?_) w12_ActShuts.b5 rfl rfl (any_of HT_.out (by kernel_rfl)) (fun _ _ _ h => h) (Or.inl ⟨by rfl, ?_⟩) ?_ ?_
                      rotate_left
                      ·intro w'
                       go_simp
                       with_reducible rfl
                      rotate_left
                      ·simp only [Act.put, zA, zB, zC, i64_w, i32_w]
                       rfl
                      refine pure_ (i := 5) (N := some 99) (v := ?_) (a' := ?_) w12_ActShuts.b6 rfl rfl (any_of HT_.out (by kernel_rfl)) (fun _ _ _ h => h) (Or.inl ⟨by rfl, ?_⟩) ?_ ?_
                      rotate_left
                      ·intro w'
                       go_simp
                       with_reducible rfl
                      rotate_left
                      ·simp only [Act.put, zA, zB, zC, i64_w, i32_w]
                       rfl
                      refine pure_ (i := 6) (N := some 100) (v := ?_) (a' := ?_) w12_ActShuts.b7 rfl rfl (any_of HT_.out (by kernel_rfl)) (fun _ _ _ h => h) (Or.inl ⟨by rfl, ?_⟩) ?_ ?_
                      rotate_left
                      ·intro w'
                       go_simp
                       with_reducible rfl
                      rotate_left
                      ·simp only [Act.put, zA, zB, zC, i64_w, i32_w]
                       rfl
                      refine pure_ (i := 7) (N := some 101) (v := ?_) (a' := ?_) w12_ActShuts.b8 rfl rfl (any_of HT_.out (by kernel_rfl)) (fun _ _ _ h => h) (Or.inl ⟨by rfl, ?_⟩) ?_ ?_
                      rotate_left
                      ·intro w'
                       go_simp
                       with_reducible rfl
                      rotate_left
                      ·simp only [Act.put, zA, zB, zC, i64_w, i32_w]
                       rfl
                      refine pure_ (i := 8) (N := some 102) (v := ?_) (a' := ?_) w12_ActShuts.b9 rfl rfl (any_of HT_.out (by kernel_rfl)) (fun _ _ _ h => h) (Or.inl ⟨by rfl, ?_⟩) ?_ ?_
                      rotate_left
                      ·intro w'
                       go_simp
                       with_reducible rfl
                      rotate_left
                      ·simp only [Act.put, zA, zB, zC, i64_w, i32_w]
                       rfl
                      refine pure_ (i := 9) (N := some 103) (v := ?_) (a' := ?_) w12_ActShuts.b10 rfl rfl (any_of HT_.out (by kernel_rfl)) (fun _ _ _ h => h) (Or.inl ⟨by rfl, ?_⟩) ?_ ?_
                      rotate_left
                      ·intro w'
                       go_simp
                       with_reducible rfl
                      rotate_left
                      ·simp only [Act.put, zA, zB, zC, i64_w, i32_w]
                       rfl
                      refine pure_ (i := 10) (N := some 104) (v := ?_) (a' := ?_) w12_ActShuts.b11 rfl rfl (any_of HT_.out (by kernel_rfl)) (fun _ _ _ h => h) (Or.inl ⟨by rfl, ?_⟩) ?_ ?_
                      rotate_left
                      ·intro w'
                       go_simp
                       with_reducible rfl
                      rotate_left
                      ·simp only [Act.put, zA, zB, zC, i64_w, i32_w]
                       rfl
                      refine one_ (i := 11) (N := some 105) w12_ActShuts.b12 rfl rfl (one_of HT_.out (by kernel_rfl)) (by decide) (fun K hK => ?_)
                      refine goes_ Try.func14 (by kernel_rfl) rfl #[.slice Ao28 t484.length co28, .slice A75 ((l0.take ((wrap64 (x90_4 + 1)) : Int).toNat).drop (x90_4 : Int).toNat).length (c0 - x90_4.toNat), .slice A76 ((l1.take ((wrap64 (x90_4 + 1)) : Int).toNat).drop (x90_4 : Int).toNat).length (c1 - x90_4.toNat)] (by rfl) rfl rfl (by (try simp only [yH, yI, yJ]); first | done | (rw [show ((l0.take ((wrap64 (x90_4 + 1)) : Int).toNat).drop (x90_4 : Int).toNat).length = ((wrap64 (x90_4 + 1)).toNat - x90_4.toNat) from (by rw [yG, yF]; have h_ : ((wrap64 (x90_4 + 1)) : Int) ≤ (l0.length : Int) := yB (by first | (with_reducible assumption) | assumption); omega), show ((l1.take ((wrap64 (x90_4 + 1)) : Int).toNat).drop (x90_4 : Int).toNat).length = ((wrap64 (x90_4 + 1)).toNat - x90_4.toNat) from (by rw [yG, yF]; have h_ : ((wrap64 (x90_4 + 1)) : Int) ≤ (l1.length : Int) := yB (by first | (with_reducible assumption) | assumption); omega)] <;> rfl) | (rw [show ((l0.take ((wrap64 (x90_4 + 1)) : Int).toNat).drop (x90_4 : Int).toNat).length = ((wrap64 (x90_4 + 1)).toNat - x90_4.toNat) from (by rw [yG, yF]; have h_ : ((wrap64 (x90_4 + 1)) : Int) ≤ (l0.length : Int) := yB (by first | (with_reducible assumption) | assumption); omega)] <;> rfl) | (rw [show ((l1.take ((wrap64 (x90_4 + 1)) : Int).toNat).drop (x90_4 : Int).toNat).length = ((wrap64 (x90_4 + 1)).toNat - x90_4.toNat) from (by rw [yG, yF]; have h_ : ((wrap64 (x90_4 + 1)) : Int) ≤ (l1.length : Int) := yB (by first | (with_reducible assumption) | assumption); omega)] <;> rfl) | rfl | (simp only [yG, yF]; rfl)) ?_
                      with_reducible refine (act_Gate.calls k4 _ _ t484 _ _ ((l0.take ((wrap64 (x90_4 + 1)) : Int).toNat).drop (x90_4 : Int).toNat) _ _ ((l1.take ((wrap64 (x90_4 + 1)) : Int).toNat).drop (x90_4 : Int).toNat) t494 t495 _ ?side1 ?side2 ?side3 ?side4 ?side5 ?side6 A41.out).mono ?_
                      (case side1 => repeat (first | exact (yM HO_10.out).2.2 | (with_reducible refine yS ?_ _) | (with_reducible refine yT ?_ _) | (with_reducible refine yU ?_)))
                      (case side2 => exact (yM HO_10.out).2.1)
                      (case side3 => repeat (first | exact (yc HR492.out HB.out) | (with_reducible refine yS ?_ _) | (with_reducible refine yT ?_ _) | (with_reducible refine yU ?_)))
                      (case side4 => exact HC492.out)
                      (case side5 => repeat (first | exact (yc HR493.out HB.out) | (with_reducible refine yS ?_ _) | (with_reducible refine yT ?_ _) | (with_reducible refine yU ?_)))
                      (case side6 => exact HC493.out)
                      rintro e w77 ⟨v496, rfl, ho0, hb⟩
                      refine ⟨_, rfl, ?_⟩
                      have n0_ := zK (Kd.R_elder' (by (with_reducible repeat (first | apply zL | apply zM | apply zN)); exact HO_7.out) (Kd.R_base ho0) hb)
                      have n1_ := zK (Kd.R_elder' (by (with_reducible repeat (first | apply zL | apply zM | apply zN)); exact HO_8.out) (Kd.R_base ho0) hb)
                      have n2_ := zK (Kd.R_elder' (by (with_reducible repeat (first | apply zL | apply zM | apply zN)); exact HO_10.out) (Kd.R_base ho0) hb)
                      have n3_ := zK (Kd.R_elder' (by (with_reducible repeat (first | apply zL | apply zM | apply zN)); exact HO_12.out) (Kd.R_base ho0) hb)
                      have n4_ := zK (Kd.R_lower (Kd.R_new' (Kd.R_new' (Kd.R_new' (Kd.R_new' ho0 (Kd.R_lt (by (with_reducible repeat (first | apply zL | apply zM | apply zN)); exact HO_7.out))) (Kd.R_lt (by (with_reducible repeat (first | apply zL | apply zM | apply zN)); exact HO_8.out))) (Kd.R_lt (by (with_reducible repeat (first | apply zL | apply zM | apply zN)); exact HO_10.out))) (Kd.R_lt (by (with_reducible repeat (first | apply zL | apply zM | apply zN)); exact HO_12.out))) (yK (by repeat (first | (with_reducible first | exact HB.out | apply zJ | apply zD | apply zE | refine zI ?_ Z1.out) | exact HB.out))))
                      have n5_ := zK (zP (g := Z3) (o := .cells #[.slice A2_0 l2_0.length c2_0, .slice A2_1 l2_1.length c2_1, .slice A2_2 l2_2.length c2_2, .int .i64 a2_3, .int .i64 a2_4, .int .i64 a2_5] 36 (0, 0)) (by (with_reducible repeat (first | refine zF ?_ _ | refine zH ?_ | refine zG ?_ _)); exact Z0.out) hb)
                      have n6_ := zK (yL (by repeat (first | (with_reducible first | exact HB.out | apply zJ | apply zD | apply zE | refine zI ?_ Z1.out) | exact HB.out)) hb)
                      clear HO_7 HO_8 HO_10 HO_12 Z0 HB
                      have HO_7 := n0_; have HO_8 := n1_; have HO_10 := n2_; have HO_12 := n3_; have HO497 := n4_; have Z0 := n5_; have HB := n6_
                      clear n0_ n1_ n2_ n3_ n4_ n5_ n6_
                      (try clear hb)
                      (try clear hb2)
                      (try clear hk)
                      (try clear hi)
                      (try clear ho0)
                      refine hK.out _ _ trivial (fun hHeld => ?_)
                      clear hK K
                      refine norm_ (a' := ?_) ?_ ?_
                      rotate_left
                      ·show Act.put _ (some 105) _ = _
                       simp only [Act.put, zA, zB, zC, i64_w, i32_w]
                       rfl
                      refine pure_ (i := 12) (N := some 93) (v := ?_) (a' := ?_) w12_ActShuts.b13 rfl rfl (any_of HT_.out (by kernel_rfl)) (fun _ _ _ h => h) (Or.inl ⟨by rfl, ?_⟩) ?_ ?_
                      rotate_left
                      ·intro w'
                       go_simp
                       with_reducible rfl
                      rotate_left
                      ·simp only [Act.put, zA, zB, zC, i64_w, i32_w]
                       rfl
                      refine pure_ (i := 13) (N := some 106) (v := ?_) (a' := ?_) w12_ActShuts.b14 rfl rfl (any_of HT_.out (by kernel_rfl)) (fun _ _ _ h => h) (Or.inl ⟨by rfl, ?_⟩) ?_ ?_
                      rotate_left
                      ·intro w'
                       go_simp
                       with_reducible rfl
                      rotate_left
                      ·simp only [Act.put, zA, zB, zC, i64_w, i32_w]
                       rfl
                      refine pure_ (i := 14) (N := some 107) (v := ?_) (a' := ?_) w12_ActShuts.b15 rfl rfl (any_of HT_.out (by kernel_rfl)) (fun _ _ _ h => h) (Or.inl ⟨by rfl, ?_⟩) ?_ ?_
                      rotate_left
                      ·intro w'
                       go_simp
                       with_reducible rfl
                      rotate_left
                      ·simp only [Act.put, zA, zB, zC, i64_w, i32_w]
                       rfl
                      refine pure_ (i := 15) (N := some 15) (v := ?_) (a' := ?_) w12_ActShuts.b16 rfl rfl (any_of HT_.out (by kernel_rfl)) (fun _ _ _ h => h) (Or.inl ⟨by rfl, ?_⟩) ?_ ?_
                      rotate_left
                      ·intro w'
                       go_simp
                       with_reducible rfl
                      rotate_left
                      ·simp only [Act.put, zA, zB, zC, i64_w, i32_w]
                       rfl
                      refine pure_ (i := 16) (N := some 16) (v := ?_) (a' := ?_) w12_ActShuts.b17 rfl rfl (any_of HT_.out (by kernel_rfl)) (fun _ _ _ h => h) (Or.inl ⟨by rfl, ?_⟩) ?_ ?_
                      rotate_left
                      ·intro w'
                       go_simp
                       with_reducible rfl
                      rotate_left
                      ·simp only [Act.put, zA, zB, zC, i64_w, i32_w]
                       rfl
                      refine done_ (done_of HT_.out (by kernel_rfl)) ?_
                      try go_wp2
                      have n0_ := zK (zN HO_7.out)
                      have n1_ := zK (zN HO_8.out)
                      have n2_ := zK (zN HO_10.out)
                      have n3_ := zK (zN HO_12.out)
                      have n4_ := zK (zN HO497.out)
                      have n5_ := zK (zH Z0.out)
                      have n6_ := zK (zE HB.out)
                      clear HO_7 HO_8 HO_10 HO_12 HO497 Z0 HB
                      have HO_7 := n0_; have HO_8 := n1_; have HO_10 := n2_; have HO_12 := n3_; have HO497 := n4_; have Z0 := n5_; have HB := n6_
                      clear n0_ n1_ n2_ n3_ n4_ n5_ n6_
                      have p498 : 0 ≤ (x90_4 : Int) := yB (by first | (with_reducible assumption) | assumption)
                      have q498 : x90_4 < (t480.length : Int) := yB (by first | (with_reducible assumption) | assumption)
                      (try (obtain ⟨Ai498, ci498, ei498⟩ := Kd.R_slice HO_8.out; subst ei498))
                      obtain ⟨ad498, e498, hx498_0⟩ := Kd.at_int (yM HO_8.out).2.2 x90_4 p498 q498
                      cases e498
                      replace p498 := yg p498
                      replace q498 := yg q498
                      refine start_ (n := 24) (S := fun w' => w'.cell? (ad498.add (x90_4).toNat) = some (.int .i8 (rd t480 x90_4))) (ds := []) w12_ActShuts.b18 (by kernel_rfl) rfl rfl (hx498_0) (fun hHeld => ?_); refine with_tabW w12_ActShuts.tab19 w12_ActShuts.bits19 (fun HT_ HW_ => ?_)
                      generalize w77.drew = w78 at HO_7 HO_8 HO_10 HO_12 HO497 Z0 HB hx498_0 hHeld ⊢
                      refine pure_ (i := 0) (N := some 108) (v := ?_) (a' := ?_) w12_ActShuts.b19 rfl rfl (any_of HT_.out (by kernel_rfl)) (fun _ _ _ h => h) (Or.inl ⟨by rfl, ?_⟩) ?_ ?_
                      rotate_left
                      ·intro w'
                       go_simp
                       with_reducible rfl
                      rotate_left
                      ·simp only [Act.put, zA, zB, zC, i64_w, i32_w]
                       rfl
                      refine pure_ (i := 1) (N := some 109) (v := ?_) (a' := ?_) w12_ActShuts.b20 rfl rfl (any_of HT_.out (by kernel_rfl)) (fun _ _ _ h => h) (Or.inl ⟨by rfl, ?_⟩) ?_ ?_
                      rotate_left
                      ·intro w'
                       go_simp
                       with_reducible rfl
                      rotate_left
                      ·simp only [Act.put, zA, zB, zC, i64_w, i32_w]
                       rfl
                      refine pure_ (i := 2) (N := some 110) (v := ?_) (a' := ?_) w12_ActShuts.b21 rfl rfl (any_of HT_.out (by kernel_rfl)) (fun _ _ _ h => h) (Or.inl ⟨by rfl, ?_⟩) ?_ ?_
                      rotate_left
                      ·intro w'
                       go_simp
                       with_reducible rfl
                      rotate_left
                      ·simp only [Act.put, zA, zB, zC, i64_w, i32_w]
                       rfl
                      refine take_ (i := 3) (N := some 111) (v := ?_) (a' := ?_) w12_ActShuts.b22 rfl rfl (take_ofW HT_.out HW_.out (by kernel_rfl)) (fun _ _ _ h => h) (Or.inl ⟨by rfl, ?_⟩) hHeld ?_ ?_
                      rotate_left
                      ·intro w' s0
                       go_simp
                       with_reducible rfl
                      rotate_left
                      ·simp only [Act.put, zA, zB, zC, i64_w, i32_w]
                       rfl
                      refine pure_ (i := 4) (N := some 112) (v := ?_) (a' := ?_) w12_ActShuts.b23 rfl rfl (any_of HT_.out (by kernel_rfl)) (fun _ _ _ h => h) (Or.inl ⟨by rfl, ?_⟩) ?_ ?_
                      rotate_left
                      ·intro w'
                       go_simp
                       with_reducible rfl
                      rotate_left
                      ·simp only [Act.put, zA, zB, zC, i64_w, i32_w]
                       rfl
                      refine pure_ (i := 5) (N := some 113) (v := ?_) (a' := ?_) w12_ActShuts.b24 rfl rfl (any_of HT_.out (by kernel_rfl)) (fun _ _ _ h => h) (Or.inl ⟨by rfl, ?_⟩) ?_ ?_
                      rotate_left
                      ·intro w'
                       go_simp
                       with_reducible rfl
                      rotate_left
                      ·simp only [Act.put, zA, zB, zC, i64_w, i32_w]
                       rfl
                      refine pure_ (i := 6) (N := some 114) (v := undef) (a' := ?_) w12_ActShuts.b25 rfl rfl (any_of HT_.out (by kernel_rfl)) (fun _ _ _ h => h) (Or.inr ⟨by rfl, rfl⟩) ?_ ?_
                      rotate_left
                      ·simp only [Act.put, zA, zB, zC, i64_w, i32_w]
                       rfl
                      refine pure_ (i := 7) (N := some 115) (v := undef) (a' := ?_) w12_ActShuts.b26 rfl rfl (any_of HT_.out (by kernel_rfl)) (fun _ _ _ h => h) (Or.inr ⟨by rfl, rfl⟩) ?_ ?_
                      rotate_left
                      ·simp only [Act.put, zA, zB, zC, i64_w, i32_w]
                       rfl
                      refine pure_ (i := 8) (N := some 116) (v := ?_) (a' := ?_) w12_ActShuts.b27 rfl rfl (any_of HT_.out (by kernel_rfl)) (fun _ _ _ h => h) (Or.inl ⟨by rfl, ?_⟩) ?_ ?_
                      rotate_left
                      ·intro w'
                       go_simp
                       with_reducible rfl
                      rotate_left
                      ·simp only [Act.put, zA, zB, zC, i64_w, i32_w]
                       rfl
                      refine pure_ (i := 9) (N := some 117) (v := ?_) (a' := ?_) w12_ActShuts.b28 rfl rfl (any_of HT_.out (by kernel_rfl)) (fun _ _ _ h => h) (Or.inl ⟨by rfl, ?_⟩) ?_ ?_
                      rotate_left
                      ·intro w'
                       go_simp
                       with_reducible rfl
                      rotate_left
                      ·simp only [Act.put, zA, zB, zC, i64_w, i32_w]
                       rfl
                      refine pure_ (i := 10) (N := some 118) (v := undef) (a' := ?_) w12_ActShuts.b29 rfl rfl (any_of HT_.out (by kernel_rfl)) (fun _ _ _ h => h) (Or.inr ⟨by rfl, rfl⟩) ?_ ?_
                      rotate_left
                      ·simp only [Act.put, zA, zB, zC, i64_w, i32_w]
                       rfl
                      refine pure_ (i := 11) (N := some 119) (v := undef) (a' := ?_) w12_ActShuts.b30 rfl rfl (any_of HT_.out (by kernel_rfl)) (fun _ _ _ h => h) (Or.inr ⟨by rfl, rfl⟩) ?_ ?_
                      rotate_left
                      ·simp only [Act.put, zA, zB, zC, i64_w, i32_w]
                       rfl
                      refine pure_ (i := 12) (N := some 120) (v := undef) (a' := ?_) w12_ActShuts.b31 rfl rfl (any_of HT_.out (by kernel_rfl)) (fun _ _ _ h => h) (Or.inr ⟨by rfl, rfl⟩) ?_ ?_
                      rotate_left
                      ·simp only [Act.put, zA, zB, zC, i64_w, i32_w]
                       rfl
                      refine pure_ (i := 13) (N := some 121) (v := ?_) (a' := ?_) w12_ActShuts.b32 rfl rfl (any_of HT_.out (by kernel_rfl)) (fun _ _ _ h => h) (Or.inl ⟨by rfl, ?_⟩) ?_ ?_
                      rotate_left
                      ·intro w'
                       go_simp
                       with_reducible rfl
                      rotate_left
                      ·simp only [Act.put, zA, zB, zC, i64_w, i32_w]
                       rfl
                      refine pure_ (i := 14) (N := some 122) (v := ?_) (a' := ?_) w12_ActShuts.b33 rfl rfl (any_of HT_.out (by kernel_rfl)) (fun _ _ _ h => h) (Or.inl ⟨by rfl, ?_⟩) ?_ ?_
                      rotate_left
                      ·intro w'
                       go_simp
                       with_reducible rfl
                      rotate_left
                      ·simp only [Act.put, zA, zB, zC, i64_w, i32_w]
                       rfl
                      refine pure_ (i := 15) (N := some 123) (v := undef) (a' := ?_) w12_ActShuts.b34 rfl rfl (any_of HT_.out (by kernel_rfl)) (fun _ _ _ h => h) (Or.inr ⟨by rfl, rfl⟩) ?_ ?_
                      rotate_left
                      ·simp only [Act.put, zA, zB, zC, i64_w, i32_w]
                       rfl
                      refine pure_ (i := 16) (N := some 124) (v := undef) (a' := ?_) w12_ActShuts.b35 rfl rfl (any_of HT_.out (by kernel_rfl)) (fun _ _ _ h => h) (Or.inr ⟨by rfl, rfl⟩) ?_ ?_
                      rotate_left
                      ·simp only [Act.put, zA, zB, zC, i64_w, i32_w]
                       rfl
                      refine pure_ (i := 17) (N := some 125) (v := undef) (a' := ?_) w12_ActShuts.b43 rfl rfl (any_of HT_.out (by kernel_rfl)) (fun _ _ _ h => h) (Or.inr ⟨by rfl, rfl⟩) ?_ ?_
                      rotate_left
                      ·simp only [Act.put, zA, zB, zC, i64_w, i32_w]
                       rfl
                      refine pure_ (i := 18) (N := some 126) (v := undef) (a' := ?_) w12_ActShuts.b44 rfl rfl (any_of HT_.out (by kernel_rfl)) (fun _ _ _ h => h) (Or.inr ⟨by rfl, rfl⟩) ?_ ?_
                      rotate_left
                      ·simp only [Act.put, zA, zB, zC, i64_w, i32_w]
                       rfl
                      refine pure_ (i := 19) (N := some 127) (v := undef) (a' := ?_) w12_ActShuts.b45 rfl rfl (any_of HT_.out (by kernel_rfl)) (fun _ _ _ h => h) (Or.inr ⟨by rfl, rfl⟩) ?_ ?_
                      rotate_left
                      ·simp only [Act.put, zA, zB, zC, i64_w, i32_w]
                       rfl
                      refine pure_ (i := 20) (N := some 128) (v := undef) (a' := ?_) w12_ActShuts.b39 rfl rfl (any_of HT_.out (by kernel_rfl)) (fun _ _ _ h => h) (Or.inr ⟨by rfl, rfl⟩) ?_ ?_
                      rotate_left
                      ·simp only [Act.put, zA, zB, zC, i64_w, i32_w]
                       rfl
                      refine pure_ (i := 21) (N := some 129) (v := undef) (a' := ?_) w12_ActShuts.b40 rfl rfl (any_of HT_.out (by kernel_rfl)) (fun _ _ _ h => h) (Or.inr ⟨by rfl, rfl⟩) ?_ ?_
                      rotate_left
                      ·simp only [Act.put, zA, zB, zC, i64_w, i32_w]
                       rfl
                      refine pure_ (i := 22) (N := some 130) (v := undef) (a' := ?_) w12_ActShuts.b41 rfl rfl (any_of HT_.out (by kernel_rfl)) (fun _ _ _ h => h) (Or.inr ⟨by rfl, rfl⟩) ?_ ?_
                      rotate_left
                      ·simp only [Act.put, zA, zB, zC, i64_w, i32_w]
                       rfl
                      refine pure_ (i := 23) (N := some 131) (v := ?_) (a' := ?_) w12_ActShuts.b42 rfl rfl (any_of HT_.out (by kernel_rfl)) (fun _ _ _ h => h) (Or.inl ⟨by rfl, ?_⟩) ?_ ?_
                      rotate_left
                      ·intro w'
                       go_simp
                       with_reducible rfl
                      rotate_left
                      ·simp only [Act.put, zA, zB, zC, i64_w, i32_w]
                       rfl
                      refine done_ (done_of HT_.out (by kernel_rfl)) ?_
                      try go_wp2
                      go_ret
                      exact ⟨by first | rfl | (simp [errW_none, errW_some] <;> rfl) | (simp [*, errW_none, errW_some] <;> rfl), by repeat (first | (with_reducible first | exact HB.out | apply zJ | apply zD | apply zE | refine zI ?_ Z1.out) | exact HB.out)⟩
                    ·rw [if_neg c42] at H
                     exact absurd H (by simp)
                   ·rw [if_neg c40] at H
                    exact absurd H (by simp)
                  ·rw [if_neg c37] at H
                   exact absurd H (by simp)
                 ·rw [if_neg c36] at H
                  exact absurd H (by simp)
                ·rw [if_neg c35] at H
                 exact absurd H (by simp)
               ·rw [if_neg c34] at H
                have c34b0 : decide (x90_4 < (t480.length : Int)) = false := yD c34
                clear c34
                replace H := yA.mp H
                obtain ⟨⟨t501, t504, t507, t510, t511, t512⟩, A790, H⟩ := H
                replace H : ((act_Middle.f k4 t501 t504 t507 t510 t511 t512 y477 l0).bind fun bt513 => ((w12_plain.f l2_0 l2_1 l2_2 a2_3 a2_4 a2_5).bind fun bt517 => ((r12_Run.f k4 bt517.1 bt517.2.1 bt517.2.2.1 bt517.2.2.2.1 bt517.2.2.2.2.1 bt517.2.2.2.2.2 y477 l0).bind fun bt529 => (if bt513.2 = bt529.2 then (w12_ActShuts.j4 k4 bt513.1 ((bt513.1.length : Int) != (bt529.1.length : Int))) else (w12_ActShuts.j4 k4 bt513.1 true))))) = some r := H
                have A79 := zK A790
                clear A790
                replace H := yA.mp H
                obtain ⟨⟨t513, t516⟩, A800, H⟩ := H
                replace H : ((w12_plain.f l2_0 l2_1 l2_2 a2_3 a2_4 a2_5).bind fun bt517 => ((r12_Run.f k4 bt517.1 bt517.2.1 bt517.2.2.1 bt517.2.2.2.1 bt517.2.2.2.2.1 bt517.2.2.2.2.2 y477 l0).bind fun bt529 => (if t516 = bt529.2 then (w12_ActShuts.j4 k4 t513 ((t513.length : Int) != (bt529.1.length : Int))) else (w12_ActShuts.j4 k4 t513 true)))) = some r := H
                have A80 := zK A800
                clear A800
                replace H := yA.mp H
                obtain ⟨⟨t517, t520, t523, t526, t527, t528⟩, A810, H⟩ := H
                replace H : ((r12_Run.f k4 t517 t520 t523 t526 t527 t528 y477 l0).bind fun bt529 => (if t516 = bt529.2 then (w12_ActShuts.j4 k4 t513 ((t513.length : Int) != (bt529.1.length : Int))) else (w12_ActShuts.j4 k4 t513 true))) = some r := H
                have A81 := zK A810
                clear A810
                replace H := yA.mp H
                obtain ⟨⟨t529, t532⟩, A820, H⟩ := H
                replace H : (if t516 = t532 then (w12_ActShuts.j4 k4 t513 ((t513.length : Int) != (t529.length : Int))) else (w12_ActShuts.j4 k4 t513 true)) = some r := H
                have A82 := zK A820
                clear A820
                have HC83 := zK H
                clear H
                have hcz84_0 : wr.cell? ⟨Z3, 0, none⟩ = some (.slice A2_0 l2_0.length c2_0) := (zO Z0.out 0).trans rfl
                have hcz84_1 : wr.cell? ⟨Z3, 1, none⟩ = some (.slice A2_1 l2_1.length c2_1) := (zO Z0.out 1).trans rfl
                have hcz84_2 : wr.cell? ⟨Z3, 2, none⟩ = some (.slice A2_2 l2_2.length c2_2) := (zO Z0.out 2).trans rfl
                have hcz84_3 : wr.cell? ⟨Z3, 3, none⟩ = some (.int .i64 a2_3) := (zO Z0.out 3).trans rfl
                have hcz84_4 : wr.cell? ⟨Z3, 4, none⟩ = some (.int .i64 a2_4) := (zO Z0.out 4).trans rfl
                have hcz84_5 : wr.cell? ⟨Z3, 5, none⟩ = some (.int .i64 a2_5) := (zO Z0.out 5).trans rfl
                have hfz84_0 := yE Z0.out 0
                have hfz84_1 := yE Z0.out 1
                have hfz84_2 := yE Z0.out 2
                have hfz84_3 := yE Z0.out 3
                have hfz84_4 := yE Z0.out 4
                have hfz84_5 := yE Z0.out 5
                go_upto_region 24 with (first | ((with_reducible refine gate_callee (f := 16) rfl ?_); refine goesL_ (some 135) rfl rfl Try.func16 (by kernel_rfl) rfl #[.agg #[.slice A2_0 l2_0.length c2_0, .slice A2_1 l2_1.length c2_1, .slice A2_2 l2_2.length c2_2, .int .i64 a2_3, .int .i64 a2_4, .int .i64 a2_5]] rfl (by (try simp only [yH, yI, yJ]); first | done | rfl | (simp only [yG, yF]; rfl)) ?_; (with_reducible refine (w12_copied.calls _ _ l2_0 _ _ l2_1 _ _ l2_2 a2_3 a2_4 a2_5 t501 t504 t507 t510 t511 t512 _ ?side1 ?side2 ?side3 ?side4 ?side5 ?side6 A79.out).mono ?_); (case side1 => repeat (first | exact (yc HR2_0.out HB.out) | (with_reducible refine yS ?_ _) | (with_reducible refine yT ?_ _) | (with_reducible refine yU ?_))); (case side2 => exact HC2_0.out); (case side3 => repeat (first | exact (yc HR2_1.out HB.out) | (with_reducible refine yS ?_ _) | (with_reducible refine yT ?_ _) | (with_reducible refine yU ?_))); (case side4 => exact HC2_1.out); (case side5 => repeat (first | exact (yc HR2_2.out HB.out) | (with_reducible refine yS ?_ _) | (with_reducible refine yT ?_ _) | (with_reducible refine yU ?_))); (case side6 => exact HC2_2.out); rintro e w85 ⟨v502, v505, v508, rfl, ho0, ho1, ho2, hb⟩; refine ⟨_, rfl, ?_⟩; have n0_ := zK (yd (Kd.R_told (Kd.R_told (Kd.R_told (Kd.R_old (by (with_reducible repeat (first | apply zL | apply zM | apply zN)); exact HO_7.out) hb) (Kd.R_base ho0)) (Kd.R_base ho1)) (Kd.R_base ho2)) (fun _ h_ => h_.1)); have n1_ := zK (yd (Kd.R_told (Kd.R_told (Kd.R_told (Kd.R_old (by (with_reducible repeat (first | apply zL | apply zM | apply zN)); exact HO_8.out) hb) (Kd.R_base ho0)) (Kd.R_base ho1)) (Kd.R_base ho2)) (fun _ h_ => h_.1)); have n2_ := zK (yd (Kd.R_told (Kd.R_told (Kd.R_told (Kd.R_old (by (with_reducible repeat (first | apply zL | apply zM | apply zN)); exact HO_10.out) hb) (Kd.R_base ho0)) (Kd.R_base ho1)) (Kd.R_base ho2)) (fun _ h_ => h_.1)); have n3_ := zK (yd (Kd.R_told (Kd.R_told (Kd.R_told (Kd.R_old (by (with_reducible repeat (first | apply zL | apply zM | apply zN)); exact HO_12.out) hb) (Kd.R_base ho0)) (Kd.R_base ho1)) (Kd.R_base ho2)) (fun _ h_ => h_.1)); have n4_ := zK (Kd.R_lower (Kd.R_new' (Kd.R_new' (Kd.R_new' (Kd.R_new' ho0 (Kd.R_lt (by (with_reducible repeat (first | apply zL | apply zM | apply zN)); exact HO_7.out))) (Kd.R_lt (by (with_reducible repeat (first | apply zL | apply zM | apply zN)); exact HO_8.out))) (Kd.R_lt (by (with_reducible repeat (first | apply zL | apply zM | apply zN)); exact HO_10.out))) (Kd.R_lt (by (with_reducible repeat (first | apply zL | apply zM | apply zN)); exact HO_12.out))) (yK (by repeat (first | (with_reducible first | exact HB.out | apply zJ | apply zD | apply zE | refine zI ?_ Z1.out) | exact HB.out)))); have n5_ := zK (Kd.R_lower (Kd.R_new' (Kd.R_new' (Kd.R_new' (Kd.R_new' ho1 (Kd.R_lt (by (with_reducible repeat (first | apply zL | apply zM | apply zN)); exact HO_7.out))) (Kd.R_lt (by (with_reducible repeat (first | apply zL | apply zM | apply zN)); exact HO_8.out))) (Kd.R_lt (by (with_reducible repeat (first | apply zL | apply zM | apply zN)); exact HO_10.out))) (Kd.R_lt (by (with_reducible repeat (first | apply zL | apply zM | apply zN)); exact HO_12.out))) (yK (by repeat (first | (with_reducible first | exact HB.out | apply zJ | apply zD | apply zE | refine zI ?_ Z1.out) | exact HB.out)))); have n6_ := zK (Kd.R_lower (Kd.R_new' (Kd.R_new' (Kd.R_new' (Kd.R_new' ho2 (Kd.R_lt (by (with_reducible repeat (first | apply zL | apply zM | apply zN)); exact HO_7.out))) (Kd.R_lt (by (with_reducible repeat (first | apply zL | apply zM | apply zN)); exact HO_8.out))) (Kd.R_lt (by (with_reducible repeat (first | apply zL | apply zM | apply zN)); exact HO_10.out))) (Kd.R_lt (by (with_reducible repeat (first | apply zL | apply zM | apply zN)); exact HO_12.out))) (yK (by repeat (first | (with_reducible first | exact HB.out | apply zJ | apply zD | apply zE | refine zI ?_ Z1.out) | exact HB.out)))); have n7_ := zK (zP (g := Z3) (o := .cells #[.slice A2_0 l2_0.length c2_0, .slice A2_1 l2_1.length c2_1, .slice A2_2 l2_2.length c2_2, .int .i64 a2_3, .int .i64 a2_4, .int .i64 a2_5] 36 (0, 0)) (by (with_reducible repeat (first | refine zF ?_ _ | refine zH ?_ | refine zG ?_ _)); exact Z0.out) hb); have n8_ := zK (yL (by repeat (first | (with_reducible first | exact HB.out | apply zJ | apply zD | apply zE | refine zI ?_ Z1.out) | exact HB.out)) hb); clear HO_7 HO_8 HO_10 HO_12 Z0 HB; have HO_7 := n0_; have HO_8 := n1_; have HO_10 := n2_; have HO_12 := n3_; have HO503 := n4_; have HO506 := n5_; have HO509 := n6_; have Z0 := n7_; have HB := n8_; clear n0_ n1_ n2_ n3_ n4_ n5_ n6_ n7_ n8_; (try clear hb); (try clear hb2); (try clear hk); (try clear hi); (try clear ho0); (try clear ho1); (try clear ho2); obtain ⟨Ao86, co86, eo86⟩ := Kd.R_slice HO503.out; subst eo86; obtain ⟨Ao87, co87, eo87⟩ := Kd.R_slice HO506.out; subst eo87; obtain ⟨Ao88, co88, eo88⟩ := Kd.R_slice HO509.out; subst eo88) | ((with_reducible refine gate_callee (f := 17) rfl ?_); refine goesL_ (some 138) rfl rfl Try.func17 (by kernel_rfl) rfl #[.agg #[.slice Ao86 t501.length co86, .slice Ao87 t504.length co87, .slice Ao88 t507.length co88, .int .i64 t510, .int .i64 t511, .int .i64 t512], .slice Ao13 y477.length co13, .slice A0 l0.length c0] rfl (by (try simp only [yH, yI, yJ]); first | done | rfl | (simp only [yG, yF]; rfl)) ?_; (with_reducible refine (act_Middle.calls k4 _ _ t501 _ _ t504 _ _ t507 t510 t511 t512 _ _ y477 _ _ l0 t513 t516 _ ?side1 ?side2 ?side3 ?side4 ?side5 ?side6 ?side7 ?side8 ?side9 ?side10 A80.out).mono ?_); (case side1 => repeat (first | exact (yM HO503.out).2.2 | (with_reducible refine yS ?_ _) | (with_reducible refine yT ?_ _) | (with_reducible refine yU ?_))); (case side2 => exact (yM HO503.out).2.1); (case side3 => repeat (first | exact (yM HO506.out).2.2 | (with_reducible refine yS ?_ _) | (with_reducible refine yT ?_ _) | (with_reducible refine yU ?_))); (case side4 => exact (yM HO506.out).2.1); (case side5 => repeat (first | exact (yM HO509.out).2.2 | (with_reducible refine yS ?_ _) | (with_reducible refine yT ?_ _) | (with_reducible refine yU ?_))); (case side6 => exact (yM HO509.out).2.1); (case side7 => repeat (first | exact (yM HO_7.out).2.2 | (with_reducible refine yS ?_ _) | (with_reducible refine yT ?_ _) | (with_reducible refine yU ?_))); (case side8 => exact (yM HO_7.out).2.1); (case side9 => repeat (first | exact (yc HR0.out HB.out) | (with_reducible refine yS ?_ _) | (with_reducible refine yT ?_ _) | (with_reducible refine yU ?_))); (case side10 => exact HC0.out); rintro e w89 ⟨v514, rfl, ho0, hb⟩; refine ⟨_, rfl, ?_⟩; have n0_ := zK (yb (by (with_reducible repeat (first | apply zL | apply zM | apply zN)); exact HO_7.out) hb); have n1_ := zK (yb (by (with_reducible repeat (first | apply zL | apply zM | apply zN)); exact HO_8.out) hb); have n2_ := zK (yb (by (with_reducible repeat (first | apply zL | apply zM | apply zN)); exact HO_10.out) hb); have n3_ := zK (yb (by (with_reducible repeat (first | apply zL | apply zM | apply zN)); exact HO_12.out) hb); have n4_ := zK (yb (by (with_reducible repeat (first | apply zL | apply zM | apply zN)); exact HO503.out) hb); have n5_ := zK (yb (by (with_reducible repeat (first | apply zL | apply zM | apply zN)); exact HO506.out) hb); have n6_ := zK (yb (by (with_reducible repeat (first | apply zL | apply zM | apply zN)); exact HO509.out) hb); have n7_ := zK (Kd.R_lower ho0 (yK (by repeat (first | (with_reducible first | exact HB.out | apply zJ | apply zD | apply zE | refine zI ?_ Z1.out) | exact HB.out)))); have n8_ := zK (zP (g := Z3) (o := .cells #[.slice A2_0 l2_0.length c2_0, .slice A2_1 l2_1.length c2_1, .slice A2_2 l2_2.length c2_2, .int .i64 a2_3, .int .i64 a2_4, .int .i64 a2_5] 36 (0, 0)) (by (with_reducible repeat (first | refine zF ?_ _ | refine zH ?_ | refine zG ?_ _)); exact Z0.out) hb); have n9_ := zK (yL (by repeat (first | (with_reducible first | exact HB.out | apply zJ | apply zD | apply zE | refine zI ?_ Z1.out) | exact HB.out)) hb); clear HO_7 HO_8 HO_10 HO_12 HO503 HO506 HO509 Z0 HB; have HO_7 := n0_; have HO_8 := n1_; have HO_10 := n2_; have HO_12 := n3_; have HO503 := n4_; have HO506 := n5_; have HO509 := n6_; have HO515 := n7_; have Z0 := n8_; have HB := n9_; clear n0_ n1_ n2_ n3_ n4_ n5_ n6_ n7_ n8_ n9_; (try clear hb); (try clear hb2); (try clear hk); (try clear hi); (try clear ho0); have hcz90_0 : w89.cell? ⟨Z3, 0, none⟩ = some (.slice A2_0 l2_0.length c2_0) := (zO Z0.out 0).trans rfl; have hcz90_1 : w89.cell? ⟨Z3, 1, none⟩ = some (.slice A2_1 l2_1.length c2_1) := (zO Z0.out 1).trans rfl; have hcz90_2 : w89.cell? ⟨Z3, 2, none⟩ = some (.slice A2_2 l2_2.length c2_2) := (zO Z0.out 2).trans rfl; have hcz90_3 : w89.cell? ⟨Z3, 3, none⟩ = some (.int .i64 a2_3) := (zO Z0.out 3).trans rfl; have hcz90_4 : w89.cell? ⟨Z3, 4, none⟩ = some (.int .i64 a2_4) := (zO Z0.out 4).trans rfl; have hcz90_5 : w89.cell? ⟨Z3, 5, none⟩ = some (.int .i64 a2_5) := (zO Z0.out 5).trans rfl; have hfz90_0 := yE Z0.out 0; have hfz90_1 := yE Z0.out 1; have hfz90_2 := yE Z0.out 2; have hfz90_3 := yE Z0.out 3; have hfz90_4 := yE Z0.out 4; have hfz90_5 := yE Z0.out 5) | ((with_reducible refine gate_callee (f := 19) rfl ?_); refine goesL_ (some 143) rfl rfl Try.func19 (by kernel_rfl) rfl #[.agg #[.slice A2_0 l2_0.length c2_0, .slice A2_1 l2_1.length c2_1, .slice A2_2 l2_2.length c2_2, .int .i64 a2_3, .int .i64 a2_4, .int .i64 a2_5]] rfl (by (try simp only [yH, yI, yJ]); first | done | rfl | (simp only [yG, yF]; rfl)) ?_; (with_reducible refine (w12_plain.calls _ _ l2_0 _ _ l2_1 _ _ l2_2 a2_3 a2_4 a2_5 t517 t520 t523 t526 t527 t528 _ ?side1 ?side2 ?side3 ?side4 ?side5 ?side6 A81.out).mono ?_); (case side1 => repeat (first | exact (yc HR2_0.out HB.out) | (with_reducible refine yS ?_ _) | (with_reducible refine yT ?_ _) | (with_reducible refine yU ?_))); (case side2 => exact HC2_0.out); (case side3 => repeat (first | exact (yc HR2_1.out HB.out) | (with_reducible refine yS ?_ _) | (with_reducible refine yT ?_ _) | (with_reducible refine yU ?_))); (case side4 => exact HC2_1.out); (case side5 => repeat (first | exact (yc HR2_2.out HB.out) | (with_reducible refine yS ?_ _) | (with_reducible refine yT ?_ _) | (with_reducible refine yU ?_))); (case side6 => exact HC2_2.out); rintro e w91 ⟨v518, v521, v524, rfl, ho0, ho1, ho2, hb⟩; refine ⟨_, rfl, ?_⟩; have n0_ := zK (yd (Kd.R_told (Kd.R_told (Kd.R_told (Kd.R_old (by (with_reducible repeat (first | apply zL | apply zM | apply zN)); exact HO_7.out) hb) (Kd.R_base ho0)) (Kd.R_base ho1)) (Kd.R_base ho2)) (fun _ h_ => h_.1)); have n1_ := zK (yd (Kd.R_told (Kd.R_told (Kd.R_told (Kd.R_old (by (with_reducible repeat (first | apply zL | apply zM | apply zN)); exact HO_8.out) hb) (Kd.R_base ho0)) (Kd.R_base ho1)) (Kd.R_base ho2)) (fun _ h_ => h_.1)); have n2_ := zK (yd (Kd.R_told (Kd.R_told (Kd.R_told (Kd.R_old (by (with_reducible repeat (first | apply zL | apply zM | apply zN)); exact HO_10.out) hb) (Kd.R_base ho0)) (Kd.R_base ho1)) (Kd.R_base ho2)) (fun _ h_ => h_.1)); have n3_ := zK (yd (Kd.R_told (Kd.R_told (Kd.R_told (Kd.R_old (by (with_reducible repeat (first | apply zL | apply zM | apply zN)); exact HO_12.out) hb) (Kd.R_base ho0)) (Kd.R_base ho1)) (Kd.R_base ho2)) (fun _ h_ => h_.1)); have n4_ := zK (yd (Kd.R_told (Kd.R_told (Kd.R_told (Kd.R_old (by (with_reducible repeat (first | apply zL | apply zM | apply zN)); exact HO503.out) hb) (Kd.R_base ho0)) (Kd.R_base ho1)) (Kd.R_base ho2)) (fun _ h_ => h_.1)); have n5_ := zK (yd (Kd.R_told (Kd.R_told (Kd.R_told (Kd.R_old (by (with_reducible repeat (first | apply zL | apply zM | apply zN)); exact HO506.out) hb) (Kd.R_base ho0)) (Kd.R_base ho1)) (Kd.R_base ho2)) (fun _ h_ => h_.1)); have n6_ := zK (yd (Kd.R_told (Kd.R_told (Kd.R_told (Kd.R_old (by (with_reducible repeat (first | apply zL | apply zM | apply zN)); exact HO509.out) hb) (Kd.R_base ho0)) (Kd.R_base ho1)) (Kd.R_base ho2)) (fun _ h_ => h_.1)); have n7_ := zK (yb (by (with_reducible repeat (first | apply zL | apply zM | apply zN)); exact HO515.out) hb); have n8_ := zK (Kd.R_lower (Kd.R_new' (Kd.R_new' (Kd.R_new' (Kd.R_new' (Kd.R_new' (Kd.R_new' (Kd.R_new' ho0 (Kd.R_lt (by (with_reducible repeat (first | apply zL | apply zM | apply zN)); exact HO_7.out))) (Kd.R_lt (by (with_reducible repeat (first | apply zL | apply zM | apply zN)); exact HO_8.out))) (Kd.R_lt (by (with_reducible repeat (first | apply zL | apply zM | apply zN)); exact HO_10.out))) (Kd.R_lt (by (with_reducible repeat (first | apply zL | apply zM | apply zN)); exact HO_12.out))) (Kd.R_lt (by (with_reducible repeat (first | apply zL | apply zM | apply zN)); exact HO503.out))) (Kd.R_lt (by (with_reducible repeat (first | apply zL | apply zM | apply zN)); exact HO506.out))) (Kd.R_lt (by (with_reducible repeat (first | apply zL | apply zM | apply zN)); exact HO509.out))) (yK (by repeat (first | (with_reducible first | exact HB.out | apply zJ | apply zD | apply zE | refine zI ?_ Z1.out) | exact HB.out)))); have n9_ := zK (Kd.R_lower (Kd.R_new' (Kd.R_new' (Kd.R_new' (Kd.R_new' (Kd.R_new' (Kd.R_new' (Kd.R_new' ho1 (Kd.R_lt (by (with_reducible repeat (first | apply zL | apply zM | apply zN)); exact HO_7.out))) (Kd.R_lt (by (with_reducible repeat (first | apply zL | apply zM | apply zN)); exact HO_8.out))) (Kd.R_lt (by (with_reducible repeat (first | apply zL | apply zM | apply zN)); exact HO_10.out))) (Kd.R_lt (by (with_reducible repeat (first | apply zL | apply zM | apply zN)); exact HO_12.out))) (Kd.R_lt (by (with_reducible repeat (first | apply zL | apply zM | apply zN)); exact HO503.out))) (Kd.R_lt (by (with_reducible repeat (first | apply zL | apply zM | apply zN)); exact HO506.out))) (Kd.R_lt (by (with_reducible repeat (first | apply zL | apply zM | apply zN)); exact HO509.out))) (yK (by repeat (first | (with_reducible first | exact HB.out | apply zJ | apply zD | apply zE | refine zI ?_ Z1.out) | exact HB.out)))); have n10_ := zK (Kd.R_lower (Kd.R_new' (Kd.R_new' (Kd.R_new' (Kd.R_new' (Kd.R_new' (Kd.R_new' (Kd.R_new' ho2 (Kd.R_lt (by (with_reducible repeat (first | apply zL | apply zM | apply zN)); exact HO_7.out))) (Kd.R_lt (by (with_reducible repeat (first | apply zL | apply zM | apply zN)); exact HO_8.out))) (Kd.R_lt (by (with_reducible repeat (first | apply zL | apply zM | apply zN)); exact HO_10.out))) (Kd.R_lt (by (with_reducible repeat (first | apply zL | apply zM | apply zN)); exact HO_12.out))) (Kd.R_lt (by (with_reducible repeat (first | apply zL | apply zM | apply zN)); exact HO503.out))) (Kd.R_lt (by (with_reducible repeat (first | apply zL | apply zM | apply zN)); exact HO506.out))) (Kd.R_lt (by (with_reducible repeat (first | apply zL | apply zM | apply zN)); exact HO509.out))) (yK (by repeat (first | (with_reducible first | exact HB.out | apply zJ | apply zD | apply zE | refine zI ?_ Z1.out) | exact HB.out)))); have n11_ := zK (zP (g := Z3) (o := .cells #[.slice A2_0 l2_0.length c2_0, .slice A2_1 l2_1.length c2_1, .slice A2_2 l2_2.length c2_2, .int .i64 a2_3, .int .i64 a2_4, .int .i64 a2_5] 36 (0, 0)) (by (with_reducible repeat (first | refine zF ?_ _ | refine zH ?_ | refine zG ?_ _)); exact Z0.out) hb); have n12_ := zK (yL (by repeat (first | (with_reducible first | exact HB.out | apply zJ | apply zD | apply zE | refine zI ?_ Z1.out) | exact HB.out)) hb); clear HO_7 HO_8 HO_10 HO_12 HO503 HO506 HO509 HO515 Z0 HB; have HO_7 := n0_; have HO_8 := n1_; have HO_10 := n2_; have HO_12 := n3_; have HO503 := n4_; have HO506 := n5_; have HO509 := n6_; have HO515 := n7_; have HO519 := n8_; have HO522 := n9_; have HO525 := n10_; have Z0 := n11_; have HB := n12_; clear n0_ n1_ n2_ n3_ n4_ n5_ n6_ n7_ n8_ n9_ n10_ n11_ n12_; (try clear hb); (try clear hb2); (try clear hk); (try clear hi); (try clear ho0); (try clear ho1); (try clear ho2); obtain ⟨Ao92, co92, eo92⟩ := Kd.R_slice HO519.out; subst eo92; obtain ⟨Ao93, co93, eo93⟩ := Kd.R_slice HO522.out; subst eo93; obtain ⟨Ao94, co94, eo94⟩ := Kd.R_slice HO525.out; subst eo94) | ((with_reducible refine gate_callee (f := 18) rfl ?_); refine goesL_ (some 146) rfl rfl Try.func18 (by kernel_rfl) rfl #[.agg #[.slice Ao92 t517.length co92, .slice Ao93 t520.length co93, .slice Ao94 t523.length co94, .int .i64 t526, .int .i64 t527, .int .i64 t528], .slice Ao13 y477.length co13, .slice A0 l0.length c0] rfl (by (try simp only [yH, yI, yJ]); first | done | rfl | (simp only [yG, yF]; rfl)) ?_; (with_reducible refine (r12_Run.calls k4 _ _ t517 _ _ t520 _ _ t523 t526 t527 t528 _ _ y477 _ _ l0 t529 t532 _ ?side1 ?side2 ?side3 ?side4 ?side5 ?side6 ?side7 ?side8 ?side9 ?side10 A82.out).mono ?_); (case side1 => repeat (first | exact (yM HO519.out).2.2 | (with_reducible refine yS ?_ _) | (with_reducible refine yT ?_ _) | (with_reducible refine yU ?_))); (case side2 => exact (yM HO519.out).2.1); (case side3 => repeat (first | exact (yM HO522.out).2.2 | (with_reducible refine yS ?_ _) | (with_reducible refine yT ?_ _) | (with_reducible refine yU ?_))); (case side4 => exact (yM HO522.out).2.1); (case side5 => repeat (first | exact (yM HO525.out).2.2 | (with_reducible refine yS ?_ _) | (with_reducible refine yT ?_ _) | (with_reducible refine yU ?_))); (case side6 => exact (yM HO525.out).2.1); (case side7 => repeat (first | exact (yM HO_7.out).2.2 | (with_reducible refine yS ?_ _) | (with_reducible refine yT ?_ _) | (with_reducible refine yU ?_))); (case side8 => exact (yM HO_7.out).2.1); (case side9 => repeat (first | exact (yc HR0.out HB.out) | (with_reducible refine yS ?_ _) | (with_reducible refine yT ?_ _) | (with_reducible refine yU ?_))); (case side10 => exact HC0.out); rintro e w95 ⟨v530, rfl, ho0, hb⟩; refine ⟨_, rfl, ?_⟩; have n0_ := zK (yb (by (with_reducible repeat (first | apply zL | apply zM | apply zN)); exact HO_7.out) hb); have n1_ := zK (yb (by (with_reducible repeat (first | apply zL | apply zM | apply zN)); exact HO_8.out) hb); have n2_ := zK (yb (by (with_reducible repeat (first | apply zL | apply zM | apply zN)); exact HO_10.out) hb); have n3_ := zK (yb (by (with_reducible repeat (first | apply zL | apply zM | apply zN)); exact HO_12.out) hb); have n4_ := zK (yb (by (with_reducible repeat (first | apply zL | apply zM | apply zN)); exact HO503.out) hb); have n5_ := zK (yb (by (with_reducible repeat (first | apply zL | apply zM | apply zN)); exact HO506.out) hb); have n6_ := zK (yb (by (with_reducible repeat (first | apply zL | apply zM | apply zN)); exact HO509.out) hb); have n7_ := zK (Kd.R_elder' (by (with_reducible repeat (first | apply zL | apply zM | apply zN)); exact HO515.out) (Kd.R_base ho0) hb); have n8_ := zK (yb (by (with_reducible repeat (first | apply zL | apply zM | apply zN)); exact HO519.out) hb); have n9_ := zK (yb (by (with_reducible repeat (first | apply zL | apply zM | apply zN)); exact HO522.out) hb); have n10_ := zK (yb (by (with_reducible repeat (first | apply zL | apply zM | apply zN)); exact HO525.out) hb); have n11_ := zK (Kd.R_lower (Kd.R_new' ho0 (Kd.R_lt (by (with_reducible repeat (first | apply zL | apply zM | apply zN)); exact HO515.out))) (yK (by repeat (first | (with_reducible first | exact HB.out | apply zJ | apply zD | apply zE | refine zI ?_ Z1.out) | exact HB.out)))); have n12_ := zK (zP (g := Z3) (o := .cells #[.slice A2_0 l2_0.length c2_0, .slice A2_1 l2_1.length c2_1, .slice A2_2 l2_2.length c2_2, .int .i64 a2_3, .int .i64 a2_4, .int .i64 a2_5] 36 (0, 0)) (by (with_reducible repeat (first | refine zF ?_ _ | refine zH ?_ | refine zG ?_ _)); exact Z0.out) hb); have n13_ := zK (yL (by repeat (first | (with_reducible first | exact HB.out | apply zJ | apply zD | apply zE | refine zI ?_ Z1.out) | exact HB.out)) hb); clear HO_7 HO_8 HO_10 HO_12 HO503 HO506 HO509 HO515 HO519 HO522 HO525 Z0 HB; have HO_7 := n0_; have HO_8 := n1_; have HO_10 := n2_; have HO_12 := n3_; have HO503 := n4_; have HO506 := n5_; have HO509 := n6_; have HO515 := n7_; have HO519 := n8_; have HO522 := n9_; have HO525 := n10_; have HO531 := n11_; have Z0 := n12_; have HB := n13_; clear n0_ n1_ n2_ n3_ n4_ n5_ n6_ n7_ n8_ n9_ n10_ n11_ n12_ n13_; (try clear hb); (try clear hb2); (try clear hk); (try clear hi); (try clear ho0)))
                (try simp only [Act.put, zA, zB, zC])
                go_cut [158] (fun v158 wc => ∃ (kq : Nat) (x158_82 : Bool), v158 = .bool x158_82 ∧ Aside0 (w12_ActShuts.j4 kq t513 x158_82 = some r) ∧ Aside0 (kq ≤ k4) ∧ Aside0 (Kd.R (Kd.int .i64) 2 wc w.heap.size (fun _ => True) v514 t513) ∧ Aside0 (wc.heap[Z3]? = some (.cells #[(.slice A2_0 l2_0.length c2_0), (.slice A2_1 l2_1.length c2_1), (.slice A2_2 l2_2.length c2_2), .int .i64 a2_3, .int .i64 a2_4, .int .i64 a2_5] 36 (0, 0))) ∧ Aside0 (Below w.heap.size w wc))
                case first =>
                 have H := HC83.out
                 clear HC83
                 by_cases c96 : t516 = t532
                 ·rw [if_pos c96] at H
                  have c96b0 : (t516 == t532) = true := beq_iff_eq.mpr c96
                  have c96b1 : (t516 != t532) = false := bne_eq_false_iff_eq.mpr c96
                  clear c96
                  (first | rw [c96b0] | (simp only [i64_w, i32_w]; rw [c96b0]) | skip)
                  have H' := zK H
                  clear H
                  obtain ⟨Ao97, co97, eo97⟩ := Kd.R_slice HO515.out
                  subst eo97
                  obtain ⟨Ao98, co98, eo98⟩ := Kd.R_slice HO531.out
                  subst eo98
                  go_wp2
                  go_meet
                  case rel => exact ⟨_, (((t513.length : Int) != (t529.length : Int))), (by first | rfl | (simp; done) | (simp [*]; done)), H', ⟨by have := HJ7.out; have := HJ19.out; have := HJ25.out; have := HK4.out; first | omega | exact yN _⟩, ⟨by (with_reducible repeat (first | apply zL | apply zM | apply zN)); exact yd HO515.out (fun _ hk => trivial)⟩, ⟨by (with_reducible repeat (first | refine zF ?_ _ | refine zH ?_ | refine zG ?_ _)); exact Z0.out⟩, ⟨by repeat (first | (with_reducible first | exact HB.out | apply zJ | apply zD | apply zE | refine zI ?_ Z1.out) | exact HB.out)⟩⟩
                 ·rw [if_neg c96] at H
                  have c96b0 : (t516 == t532) = false := beq_eq_false_iff_ne.mpr c96
                  have c96b1 : (t516 != t532) = true := bne_iff_ne.mpr c96
                  (first | rw [c96b0] | (simp only [i64_w, i32_w]; rw [c96b0]) | skip)
                  have H' := zK H
                  clear H
                  go_wp2
                  go_meet
                  case rel => exact ⟨_, (true), (by first | rfl | (simp; done) | (simp [*]; done)), H', ⟨by have := HJ7.out; have := HJ19.out; have := HJ25.out; have := HK4.out; first | omega | exact yN _⟩, ⟨by (with_reducible repeat (first | apply zL | apply zM | apply zN)); exact yd HO515.out (fun _ hk => trivial)⟩, ⟨by (with_reducible repeat (first | refine zF ?_ _ | refine zH ?_ | refine zG ?_ _)); exact Z0.out⟩, ⟨by repeat (first | (with_reducible first | exact HB.out | apply zJ | apply zD | apply zE | refine zI ?_ Z1.out) | exact HB.out)⟩⟩
                case rest =>
                 clear HC83
                 try clear c1
                 try clear c2
                 try clear p2
                 try clear c3
                 try clear c4
                 try clear p4
                 try clear q4
                 try clear hx4
                 try clear p6
                 try clear c9
                 try clear c14
                 try clear c16
                 try clear c17
                 try clear c18
                 try clear c19
                 try clear c34
                 try clear c34b0
                 try clear c35
                 try clear c36
                 try clear c37
                 try clear c40
                 try clear c42
                 try clear c43
                 try clear c43b0
                 try clear c43b1
                 try clear p49
                 try clear q49
                 try clear hx49
                 try clear p64
                 try clear c96
                 try clear c96b0
                 try clear c96b1
                 try clear hcz84_0
                 try clear hcz84_1
                 try clear hcz84_2
                 try clear hcz84_3
                 try clear hcz84_4
                 try clear hcz84_5
                 try clear hcz90_0
                 try clear hcz90_1
                 try clear hcz90_2
                 try clear hcz90_3
                 try clear hcz90_4
                 try clear hcz90_5
                 try clear hfz84_0
                 try clear hfz84_1
                 try clear hfz84_2
                 try clear hfz84_3
                 try clear hfz84_4
                 try clear hfz84_5
                 try clear hfz90_0
                 try clear hfz90_1
                 try clear hfz90_2
                 try clear hfz90_3
                 try clear hfz90_4
                 try clear hfz90_5
                 try clear hx498_0
                 try clear p498
                 try clear q498
                 obtain ⟨kq, x158_82, rfl, HA, HJ82, HO_17, Z0, HB⟩ := hcut
                 cases kq with
                 | zero => exact absurd HA.out (by simp [w12_ActShuts.j4])
                 | succ kj82 =>
                  have H := HA.out
                  clear HA
                  simp only [w12_ActShuts.j4] at H
                  by_cases c99 : x158_82 = true
                  ·subst c99
                   have H1 : (some false) = some r := by rw [if_pos rfl] at H; exact H
                   clear H
                   have H := H1
                   clear H1
                   obtain rfl := yY H
                   go_wp2
                   go_ret
                   exact ⟨by first | rfl | (simp [errW_none, errW_some] <;> rfl) | (simp [*, errW_none, errW_some] <;> rfl), by repeat (first | (with_reducible first | exact HB.out | apply zJ | apply zD | apply zE | refine zI ?_ Z1.out) | exact HB.out)⟩
                  ·replace c99 := yh.mpr c99
                   subst c99
                   have H1 : (w12_ActShuts.l1 kj82 t513 (t513.length : Int) 0) = some r := by rw [if_neg (show ¬ (false = true) by decide)] at H; exact H
                   clear H
                   have H := H1
                   clear H1
                   have H' := zK H
                   clear H
                   obtain ⟨Ao100, co100, eo100⟩ := Kd.R_slice HO_17.out
                   subst eo100
                   go_wp2
                   go_loopg [161] kj82 (fun kq v161 w' => ∃ (x161_6 : Int), v161 = .int .i64 x161_6 ∧ Aside0 (w12_ActShuts.l1 kq t513 (t513.length : Int) x161_6 = some r) ∧ Aside0 (kq ≤ kj82) ∧ Aside0 (Kd.R (Kd.int .i64) 2 w' w.heap.size (fun _ => True) (.slice Ao100 t513.length co100) t513) ∧ Aside0 (w'.heap[Z3]? = some (.cells #[(.slice A2_0 l2_0.length c2_0), (.slice A2_1 l2_1.length c2_1), (.slice A2_2 l2_2.length c2_2), .int .i64 a2_3, .int .i64 a2_4, .int .i64 a2_5] 36 (0, 0))) ∧ Aside0 (Below w.heap.size w w'))
                   case atStart => exact ⟨(0), (by first | rfl | (simp; done) | (simp [*]; done)), H', ⟨yN _⟩, ⟨by (with_reducible repeat (first | apply zL | apply zM | apply zN)); exact HO_17.out⟩, ⟨by (with_reducible repeat (first | refine zF ?_ _ | refine zH ?_ | refine zG ?_ _)); exact Z0.out⟩, ⟨by repeat (first | (with_reducible first | exact HB.out | apply zJ | apply zD | apply zE | refine zI ?_ Z1.out) | exact HB.out)⟩⟩
                   case round =>
                    clear H'
                    try clear c1
                    try clear c2
                    try clear p2
                    try clear c3
                    try clear c4
                    try clear p4
                    try clear q4
                    try clear hx4
                    try clear p6
                    try clear c9
                    try clear c14
                    try clear c16
                    try clear c17
                    try clear c18
                    try clear c19
                    try clear c34
                    try clear c34b0
                    try clear c35
                    try clear c36
                    try clear c37
                    try clear c40
                    try clear c42
                    try clear c43
                    try clear c43b0
                    try clear c43b1
                    try clear p49
                    try clear q49
                    try clear hx49
                    try clear p64
                    try clear c96
                    try clear c96b0
                    try clear c96b1
                    try clear c99
                    try clear hcz84_0
                    try clear hcz84_1
                    try clear hcz84_2
                    try clear hcz84_3
                    try clear hcz84_4
                    try clear hcz84_5
                    try clear hcz90_0
                    try clear hcz90_1
                    try clear hcz90_2
                    try clear hcz90_3
                    try clear hcz90_4
                    try clear hcz90_5
                    try clear hfz84_0
                    try clear hfz84_1
                    try clear hfz84_2
                    try clear hfz84_3
                    try clear hfz84_4
                    try clear hfz84_5
                    try clear hfz90_0
                    try clear hfz90_1
                    try clear hfz90_2
                    try clear hfz90_3
                    try clear hfz90_4
                    try clear hfz90_5
                    try clear hx498_0
                    try clear p2
                    try clear p4
                    try clear p49
                    try clear p498
                    try clear p6
                    try clear p64
                    try clear q4
                    try clear q49
                    try clear q498
                    obtain ⟨x161_6, rfl, HA, HK6, HO_159, Z0, HB⟩ := hrel
                    cases gk with
                    | zero => exact absurd HA.out (by simp [w12_ActShuts.l1])
                    | succ k6 =>
                     have H := HA.out
                     clear HA
                     simp only [w12_ActShuts.l1] at H
                     by_cases c101 : x161_6 < (t513.length : Int)
                     ·rw [if_pos c101] at H
                      have c101b0 : decide (x161_6 < (t513.length : Int)) = true := yC c101
                      clear c101
                      by_cases c102 : 0 ≤ x161_6
                      ·rw [if_pos c102] at H
                       have c102b0 : decide (0 ≤ x161_6) = true := yC c102
                       clear c102
                       by_cases c103 : x161_6 < (t513.length : Int)
                       ·rw [if_pos c103] at H
                        have c103b0 : decide (x161_6 < (t513.length : Int)) = true := yC c103
                        clear c103
                        by_cases c104 : (rd t513 x161_6) = 0
                        ·rw [if_pos c104] at H
                         have c104b0 : ((rd t513 x161_6) == 0) = true := beq_iff_eq.mpr c104
                         have c104b1 : ((rd t513 x161_6) != 0) = false := bne_eq_false_iff_eq.mpr c104
                         clear c104
                         have H' := zK H
                         clear H
                         have p533 : 0 ≤ (x161_6 : Int) := yB (by first | (with_reducible assumption) | assumption)
                         have q533 : x161_6 < (t513.length : Int) := yB (by first | (with_reducible assumption) | assumption)
                         (try (obtain ⟨Ai533, ci533, ei533⟩ := Kd.R_slice HO_159.out; subst ei533))
                         obtain ⟨ad533, e533, hx533_0⟩ := Kd.at_int (yM HO_159.out).2.2 x161_6 p533 q533
                         cases e533
                         replace p533 := yg p533
                         replace q533 := yg q533
                         go_wp2
                         go_roundg k6
                         case measure => have := HJ7.out; have := HJ19.out; have := HJ25.out; have := HK4.out; have := HJ82.out; have := HK6.out; omega
                         case rel => exact ⟨(wrap64 (x161_6 + 1)), (by first | rfl | (simp; done) | (simp [*]; done)), H', ⟨by have := HJ7.out; have := HJ19.out; have := HJ25.out; have := HK4.out; have := HJ82.out; have := HK6.out; omega⟩, ⟨by (with_reducible repeat (first | apply zL | apply zM | apply zN)); exact HO_159.out⟩, ⟨by (with_reducible repeat (first | refine zF ?_ _ | refine zH ?_ | refine zG ?_ _)); exact Z0.out⟩, ⟨by repeat (first | (with_reducible first | exact HB.out | apply zJ | apply zD | apply zE | refine zI ?_ Z1.out) | exact HB.out)⟩⟩
                        ·rw [if_neg c104] at H
                         have c104b0 : ((rd t513 x161_6) == 0) = false := beq_eq_false_iff_ne.mpr c104
                         have c104b1 : ((rd t513 x161_6) != 0) = true := bne_iff_ne.mpr c104
                         obtain rfl := yY H
                         have p533 : 0 ≤ (x161_6 : Int) := yB (by first | (with_reducible assumption) | assumption)
                         have q533 : x161_6 < (t513.length : Int) := yB (by first | (with_reducible assumption) | assumption)
                         (try (obtain ⟨Ai533, ci533, ei533⟩ := Kd.R_slice HO_159.out; subst ei533))
                         obtain ⟨ad533, e533, hx533_0⟩ := Kd.at_int (yM HO_159.out).2.2 x161_6 p533 q533
                         cases e533
                         replace p533 := yg p533
                         replace q533 := yg q533
                         go_wp2
                         go_ret
                         exact ⟨by first | rfl | (simp [errW_none, errW_some] <;> rfl) | (simp [*, errW_none, errW_some] <;> rfl), by repeat (first | (with_reducible first | exact HB.out | apply zJ | apply zD | apply zE | refine zI ?_ Z1.out) | exact HB.out)⟩
                       ·rw [if_neg c103] at H
                        exact absurd H (by simp)
                      ·rw [if_neg c102] at H
                       exact absurd H (by simp)
                     ·rw [if_neg c101] at H
                      have c101b0 : decide (x161_6 < (t513.length : Int)) = false := yD c101
                      clear c101
                      obtain rfl := yY H
                      go_wp2
                      go_ret
                      exact ⟨by first | rfl | (simp [errW_none, errW_some] <;> rfl) | (simp [*, errW_none, errW_some] <;> rfl), by repeat (first | (with_reducible first | exact HB.out | apply zJ | apply zD | apply zE | refine zI ?_ Z1.out) | exact HB.out)⟩
      ·rw [if_neg c19] at H
       have c19b0 : ((l0.length : Int) == (l1.length : Int)) = false := beq_eq_false_iff_ne.mpr c19
       have c19b1 : ((l0.length : Int) != (l1.length : Int)) = true := bne_iff_ne.mpr c19
       have c19b2 : (l0.length == l1.length) = false := by first | simpa using c19 | (simp at c19 ⊢; omega)
       by_cases c105 : t481 = 80
       ·rw [if_pos c105] at H
        have c105b0 : (t481 == 80) = true := beq_iff_eq.mpr c105
        have c105b1 : (t481 != 80) = false := bne_eq_false_iff_eq.mpr c105
        clear c105
        obtain rfl := yY H
        obtain ⟨Ao106, co106, eo106⟩ := Kd.R_slice HO_8.out
        subst eo106
        go_wp2
        go_ret
        exact ⟨by first | rfl | (simp [errW_none, errW_some] <;> rfl) | (simp [*, errW_none, errW_some] <;> rfl), by repeat (first | (with_reducible first | exact HB.out | apply zJ | apply zD | apply zE | refine zI ?_ Z1.out) | exact HB.out)⟩
       ·rw [if_neg c105] at H
        have c105b0 : (t481 == 80) = false := beq_eq_false_iff_ne.mpr c105
        have c105b1 : (t481 != 80) = true := bne_iff_ne.mpr c105
        obtain rfl := yY H
        go_wp2
        go_ret
        exact ⟨by first | rfl | (simp [errW_none, errW_some] <;> rfl) | (simp [*, errW_none, errW_some] <;> rfl), by repeat (first | (with_reducible first | exact HB.out | apply zJ | apply zD | apply zE | refine zI ?_ Z1.out) | exact HB.out)⟩
  ·rw [if_neg c6] at H
   exact absurd H (by simp)
 ·replace c5 := yh.mpr c5
  subst c5
  have H1 : (some false) = some r := by rw [if_neg (show ¬ (false = true) by decide)] at H; exact H
  clear H
  have H := H1
  clear H1
  obtain rfl := yY H
  go_enter Try.func7, Try.ntmps7
  go_wp2_with (first | ((with_reducible refine gate_dst (N := 5) rfl ?_); refine box_event ?hg (N := 5) ?hd (cs := #[.slice A2_0 l2_0.length c2_0, .slice A2_1 l2_1.length c2_1, .slice A2_2 l2_2.length c2_2, .int .i64 a2_3, .int .i64 a2_4, .int .i64 a2_5]) (t := 36) ?hr ?_; (case hd => rfl); (case hg => rfl); (case hr => first | (go_simp; done) | (go_simp; rfl)); intro Z3 hg w107 hbox hb; have n0_ := zK (yL (by repeat (first | (with_reducible first | exact HB.out | apply zJ | apply zD | apply zE) | exact HB.out)) hb); have n1_ := zK (hbox); have n2_ := zK ((by rw [hg]; exact (yK (by repeat (first | (with_reducible first | exact HB.out | apply zJ | apply zD | apply zE) | exact HB.out))) : w.heap.size ≤ Z3)); have n3_ := zK ((by rw [hg]; exact (yK (by repeat (first | (with_reducible first | exact HB.out | apply zJ | apply zD | apply zE) | exact HB.out))) : w.heap.size ≤ Z3)); clear HB; have HB := n0_; have Z0 := n1_; have Z2 := n2_; have Z1 := n3_; clear n0_ n1_ n2_ n3_ hb hbox hg) | ((with_reducible refine gate_callee (f := 10) rfl ?_); refine goesL_ (some 22) rfl rfl Try.func10 (by kernel_rfl) rfl #[] rfl (by (try simp only [yH, yI, yJ]); first | done | rfl | (simp only [yG, yF]; rfl)) ?_; (with_reducible refine (w12_awake.calls k  false _ A4.out).mono ?_); rintro e w108 ⟨rfl, hb⟩; refine ⟨_, rfl, ?_⟩; have n0_ := zK (zP (g := Z3) (o := .cells #[.slice A2_0 l2_0.length c2_0, .slice A2_1 l2_1.length c2_1, .slice A2_2 l2_2.length c2_2, .int .i64 a2_3, .int .i64 a2_4, .int .i64 a2_5] 36 (0, 0)) (by (with_reducible repeat (first | refine zF ?_ _ | refine zH ?_ | refine zG ?_ _)); exact Z0.out) hb); have n1_ := zK (yL (by repeat (first | (with_reducible first | exact HB.out | apply zJ | apply zD | apply zE | refine zI ?_ Z1.out) | exact HB.out)) hb); clear Z0 HB; have Z0 := n0_; have HB := n1_; clear n0_ n1_; (try clear hb); (try clear hb2); (try clear hk); (try clear hi)))
  go_ret
  exact ⟨by first | rfl | (simp [errW_none, errW_some] <;> rfl) | (simp [*, errW_none, errW_some] <;> rfl), by repeat (first | (with_reducible first | exact HB.out | apply zJ | apply zD | apply zE | refine zI ?_ Z1.out) | exact HB.out)⟩

end Go.Proofs.Ytjcfhgpaipbedaa.A
