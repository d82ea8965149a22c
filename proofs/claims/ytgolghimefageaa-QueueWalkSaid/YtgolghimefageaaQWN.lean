/- A queue: All, at the moment of the call. -/
import Derived.Test.YtgolghimefageaaQWM
namespace Go.Proofs.Ytgolghimefageaa.QW
open Go.Proofs Go.RowKit Go.Shelf Go.Lib Go.Maps Go.Proofs.YtgolghimefageaaW.PrintWords Go.Proofs.YtgolghimefageaaW.PrintLast Go.Proofs.YtgolghimefageaaW.PrintMore Go.Proofs.Ytgolghimefageaa.St
def elL (x : El) : List Value := [(.int .i64 x.k), (.int .i64 x.v), .int .i64 x.came, .int .i64 x.ticket]
def elRow (E : List El) : List Value := E.flatMap elL
theorem elRow_len (E : List El) : (elRow E).length = E.length * 4 := by
  induction E with
  | nil => rfl
  | cons s E ih => show (elL s ++ elRow E).length = _; rw [List.length_append, ih, List.length_cons]; show 4 + _ = _; omega
theorem elRow_take (E : List El) (j : Nat) (hj : j < E.length) : elRow (E.take (j + 1)) = elRow (E.take j) ++ elL E[j]! := by
  unfold elRow
  rw [List.take_succ_eq_append_getElem hj, List.flatMap_append, getElem!_pos E j hj]
  simp
theorem elRow_get (E : List El) (i : Nat) (h : i < E.length) : (elRow E)[i * 4]? = some (.int .i64 E[i]!.k) ∧ (elRow E)[i * 4 + 1]? = some (.int .i64 E[i]!.v) ∧ (elRow E)[i * 4 + 2]? = some (.int .i64 E[i]!.came) ∧ (elRow E)[i * 4 + 3]? = some (.int .i64 E[i]!.ticket) := by
  induction E generalizing i with
  | nil => simp at h
  | cons s E ih =>
    have e : elRow (s :: E) = (.int .i64 s.k) :: (.int .i64 s.v) :: .int .i64 s.came :: .int .i64 s.ticket :: elRow E := rfl
    rw [e]
    cases i with
    | zero => exact ⟨rfl, rfl, rfl, rfl⟩
    | succ i =>
      have := ih i (by simpa using h)
      rw [show (i + 1) * 4 = i * 4 + 4 by omega]
      exact this
theorem infoE : (Try.prog.info? 102).map (fun i => (i.zero, i.size, i.bytes)) = some (some (.agg elZ), 4, 32) := by kernel_rfl
set_option maxRecDepth 100000 in
set_option maxHeartbeats 4000000 in
theorem all_calls {n0 : Nat} {w : World} {P : Nat → Prop} {b : Nat} {vl : Value} {mb nm : Nat} {E : List El} {most came next : Int} (h : QAt n0 w P b vl mb nm E most came next) (hE : E.length ≤ 65536) :
    Calls Try.prog 28 #[.pointer (some ⟨b, 0, none⟩)] w fun e w' => ∃ g v, e = .returned (.func (.func 45) #[] #[.pointer (some ⟨g, 0, none⟩)]) ∧ g = w.heap.size ∧ w'.heap[g]? = some (.cells #[v] 106 (0, 0)) ∧ w'.ownsRow (w.heap.size + 1) 102 4 v E.length (elRow E) ∧ Below w.heap.size w w' := by
  obtain ⟨i0, hi, hz0, hz1, hz2⟩ := info_parts infoE
  have mixed : Try.prog.follows .mixedOrders = true := by kernel_rfl
  have ne := nep ⟨b, 0, none⟩
  obtain ⟨va, vc, hvl⟩ := own_form h.row
  subst hvl
  have hc0 : (w.alloc (.cells #[.slice none 0 0] 106)).cell? ⟨b, 3, none⟩ = some (.slice va E.length vc) := Lib.cell?_alloc_some _ h.c3
  have HE := Go.Lib.hid hE
  have HQ := Aside0.mk h
  obtain ⟨G, hG⟩ : ∃ G, G = w.heap.size := ⟨_, rfl⟩
  have HGG := Go.Lib.hid hG
  have S0 : Aside0 ((w.alloc (.cells #[.slice none 0 0] 106)).heap[G]? = some (.cells #[.slice none 0 0] 106 (0, 0)) ∧ (w.alloc (.cells #[.slice none 0 0] 106)).ownsRow (G + 1) 102 4 (.slice none 0 0) 0 (elRow (E.take 0)) ∧ Below w.heap.size w (w.alloc (.cells #[.slice none 0 0] 106))) :=
    ⟨by rw [hG]; exact heap_alloc_new w _, World.ownsRow_nil _ _ _ _, below_alloc (Below.refl _ _) _⟩
  clear h hE
  go_enter Try.func28, Try.ntmps28
  go_wp2
  rw [← hG]
  clear hG hc0
  go_loopg [13] (E.length + 1) (fun kx s13 wr => ∃ (j : Nat) (vv : Value), s13 = .int .i64 (j : Int) ∧ Hid (j ≤ E.length ∧ E.length < j + kx) ∧ Aside0 (wr.heap[G]? = some (.cells #[vv] 106 (0, 0)) ∧ wr.ownsRow (G + 1) 102 4 vv j (elRow (E.take j)) ∧ Below w.heap.size w wr))
  case atStart => exact ⟨0, _, rfl, ⟨Nat.zero_le _, by omega⟩, S0⟩
  case round =>
    clear S0
    obtain ⟨j, vv, rfl, hj, S1⟩ := hrel
    obtain ⟨ga, gc, hvv⟩ := own_form S1.out.2.1
    subst hvv
    have HQ1 := Aside0.mk (HQ.out.below S1.out.2.2)
    by_cases cj : j < E.length
    · obtain ⟨g, cap, hv, _, hgl⟩ := own_some HQ1.out.row (by omega)
      injection hv with hv1 _ hv3
      subst hv1
      subst hv3
      have hcg : wr.cell? ⟨g, j, none⟩ = some (.pointer (some ⟨E[j]!.p, 0, none⟩)) := own_cell HQ1.out.row j _ (by unfold ptrs; rw [List.getElem?_map, List.getElem?_eq_getElem cj, getElem!_pos E j cj]; rfl)
      have hel : ElAt wr E[j]! := HQ1.out.els _ (by rw [getElem!_pos E j cj]; exact List.getElem_mem cj)
      obtain ⟨x, hx⟩ : ∃ x, x = E[j]! := ⟨_, rfl⟩
      rw [← hx] at hcg hel
      have HX := Go.Lib.hid hx
      obtain ⟨k0, k1, k2, k3⟩ := (show ElAt wr.drew x from hel).cells
      have hbx : wr.drew.cell? ⟨G, 0, none⟩ = some (.slice ga j gc) := cells_at S1.out.1 0 _ rfl
      have z1 : decide ((j : Int) < (E.length : Int)) = true := decide_eq_true (by omega)
      have z3 : 0 ≤ (j : Int) := by omega
      have z4 : (j : Int) < (E.length : Int) := by omega
      have zj : wrap64 ((j : Int) + 1) = ((j + 1 : Nat) : Int) := by have := HE.out; unfold wrap64; omega
      have CJ := Go.Lib.hid cj
      clear hx cj hel
      go_wp2_with fail
      have hown0 := (S1.out.2.1.alloc (.cells #[(.int .i64 x.k), (.int .i64 x.v), .int .i64 x.came, .int .i64 x.ticket] 102))
      have hnews0 := World.news_of_block (cs := #[(.int .i64 x.k), (.int .i64 x.v), .int .i64 x.came, .int .i64 x.ticket]) (t := 102) (fr := (0, 0)) (heap_alloc_new wr _)
      have hG1 := S1.out.1
      have hGlt := (Array.getElem?_eq_some_iff.1 hG1).1
      have hGa : (wr.alloc (.cells #[(.int .i64 x.k), (.int .i64 x.v), .int .i64 x.came, .int .i64 x.ticket] 102)).heap[G]? = some (.cells #[.slice ga j gc] 106 (0, 0)) := (heap_alloc_old wr _ hGlt).trans hG1
      have hne : (Value.slice ga j gc).ownBlock ≠ some G := fun e => by have := (S1.out.2.1.lt G e).1; omega
      have hw0 : ∀ (W9 w1 : World), W9.heap = (wr.alloc (.cells #[(.int .i64 x.k), (.int .i64 x.v), .int .i64 x.came, .int .i64 x.ticket] 102)).heap → W9.grownBy w1 (Value.slice ga j gc).ownBlock → w1.heap[G]? = some (.cells #[.slice ga j gc] 106 (0, 0)) := fun W9 w1 h9 hg => (hg.block G (by rw [h9]; simp; omega) (Ne.symm hne)).trans (by rw [h9]; exact hGa)
      have hbx2 := cells_at hGa 0 (.slice ga j gc) rfl
      have HOW := Aside0.mk (And.intro hown0 (And.intro hnews0 hw0))
      have HLT := Go.Lib.hid hGlt
      clear hown0 hnews0 hG1 hGlt hGa hne hw0
      go_region_law_o ((refine step_append_lies _ (by rfl) _ _ _ (by rfl) (G + 1) 102 i0 _ 4 32 Try.underlying106 hi hz0 hz1 hz2 (by rfl) (by omega) (.slice ga j gc) j (elRow (E.take j)) (by rfl) HOW.out.1 ⟨wr.heap.size, 0, none⟩ 1 1 (elL x) (by rfl) (by rfl) HOW.out.2.1 (by intro u hu; unfold elL at hu; simp at hu; rcases hu with rfl | rfl | rfl | rfl <;> rfl) (by omega) (by have := HE.out; have := CJ.out; unfold maxLen; omega) (by have := HE.out; have := CJ.out; omega) (by have := HLT.out; show G + 1 ≤ (wr.alloc _).heap.size; simp; omega) (wr.heap.size + 1) (by show (wr.alloc _).heap.size = _; simp) ?_; intro gg cap w1 hown1 hgrow hat hlt; have hG2 := HOW.out.2.2 (wr.alloc (.cells #[(.int .i64 x.k), (.int .i64 x.v), .int .i64 x.came, .int .i64 x.ticket] 102)).drew w1 rfl hgrow; have cG2 := cells_at hG2 0 (.slice ga j gc) rfl; have fG2 := frozen_at hG2 0; have H4 := Aside0.mk (And.intro hown1 (And.intro hgrow (And.intro hat hG2))); clear hown1 hgrow hat hG2 hlt))
      all_goals
        go_wp2
        go_roundg (E.length - j)
        case measure => have := hj.out; have := CJ.out; omega
        case rel =>
          obtain ⟨hown1, hgrow, hat, hG2⟩ := H4.out
          have hg1 : wr.grownBy w1 (Value.slice ga j gc).ownBlock := grown_of (k := 1) hgrow
          have hrow : ∀ k, (Value.slice ga j gc).ownBlock = some k → G + 1 ≤ k := fun k hk => (S1.out.2.1.lt k hk).1
          have hrt : elRow (E.take j) ++ elL x = elRow (E.take (j + 1)) := by rw [elRow_take E j CJ.out, ← HX.out]
          rw [hrt] at hown1
          have hGG := HGG.out
          have hn : w.heap.size ≤ wr.heap.size := S1.out.2.2.size
          have hB1 : Below w.heap.size w w1 := S1.out.2.2.grown hg1 hn (fun k hk => by have := hrow k hk; omega)
          have hgg : gg ≠ G := by
            rcases hat with e | e
            · have := hrow gg e; omega
            · have := HLT.out; omega
          exact ⟨j + 1, _, by first | rfl | (show Value.int .i64 (wrap64 ((j : Int) + 1)) = _; rw [zj]), ⟨by have := CJ.out; omega, by have := CJ.out; omega⟩, ⟨cells_set hG2 0 _, set_other hown1 G 0 _ (fun e => hgg (by injection e)), hB1.setCell (p := ⟨G, 0, none⟩) (by show w.heap.size ≤ G; omega) _⟩⟩
    · have z1 : decide ((j : Int) < (E.length : Int)) = false := decide_eq_false (by omega)
      have z2 : decide (j < E.length) = false := decide_eq_false cj
      have hjj : j = E.length := by have := hj.out; omega
      have HJ := Go.Lib.hid hjj
      clear cj hjj
      go_wp2
      go_ret
      have hj2 := HJ.out
      obtain ⟨s2, s3, s4⟩ := S1.out
      have e1 : elRow (E.take j) = elRow E := by rw [hj2, List.take_length]
      rw [e1] at s3
      refine ⟨G, _, rfl, HGG.out, s2, ?_, s4⟩
      rw [← HGG.out, ← hj2]
      exact s3
end Go.Proofs.Ytgolghimefageaa.QW
