/- slices.Insert at []int: the shelf's contract, laid here. -/
import Derived.Shelf.Spec.SlicesInsert
import Derived.Shelf.Spec.SlicesInsertGrow
import Derived.KernelRfl
import Derived.Test.YtmcmkdpidppcaaaProg
namespace Go.Proofs.Ytmcmkdpidppcaaa.St
open Go Go.Proofs Go.Shelf Go.RowKit
def renI : Ren := ⟨fun x => if x = 21 then 37 else if x = 27 then 44 else if x = 28 then 45 else if x = 35 then 47 else if x = 39 then 48 else x, fun x => if x = 0 then 0 else if x = 1 then 1 else if x = 2 then 2 else if x = 3 then 3 else if x = 4 then 4 else if x = 5 then 5 else if x = 6 then 6 else if x = 7 then 7 else if x = 8 then 8 else if x = 9 then 9 else if x = 10 then 10 else if x = 11 then 11 else if x = 12 then 12 else if x = 13 then 13 else if x = 14 then 14 else if x = 15 then 15 else if x = 16 then 16 else if x = 17 then 17 else if x = 18 then 18 else if x = 19 then 19 else if x = 20 then 20 else if x = 21 then 21 else if x = 22 then 44 else if x = 24 then 22 else if x = 28 then 92 else if x = 33 then 50 else if x = 36 then 99 else if x = 37 then 100 else if x = 40 then 98 else if x = 41 then 71 else if x = 42 then 84 else if x = 45 then 102 else if x = 46 then 103 else if x = 47 then 104 else if x = 48 then 105 else if x = 49 then 106 else if x = 50 then 107 else if x = 51 then 108 else if x = 52 then 51 else if x = 53 then 109 else if x = 54 then 110 else if x = 55 then 111 else if x = 56 then 112 else if x = 57 then 113 else if x = 58 then 114 else if x = 59 then 115 else if x = 60 then 116 else if x = 61 then 117 else if x = 62 then 124 else x, fun x => x⟩
theorem laysI : Lays2.n21 Try.prog renI where
  mixed := by kernel_rfl
  f21 := by kernel_rfl
  f27 := by kernel_rfl
  f28 := by kernel_rfl
  f35 := by kernel_rfl
  f39 := by kernel_rfl
  t0 := by kernel_rfl
  a0 := fun _ => by kernel_rfl
  z0 := fun _ => by kernel_rfl
  v0 := fun _ => by kernel_rfl
  t3 := by kernel_rfl
  a3 := fun _ => by kernel_rfl
  z3 := fun _ => by kernel_rfl
  v3 := fun _ => by kernel_rfl
  t4 := by kernel_rfl
  a4 := fun _ => by kernel_rfl
  z4 := fun _ => by kernel_rfl
  v4 := fun _ => by kernel_rfl
  t22 := by kernel_rfl
  a22 := fun _ => by kernel_rfl
  z22 := fun _ => by kernel_rfl
  v22 := fun _ => by kernel_rfl
  i3 := by kernel_rfl
end Go.Proofs.Ytmcmkdpidppcaaa.St
