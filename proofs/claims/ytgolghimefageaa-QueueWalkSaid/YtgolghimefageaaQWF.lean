/- A queue: place and Put. -/
import Derived.Test.YtgolghimefageaaQWE
namespace Go.Proofs.Ytgolghimefageaa.QW
open Go.Proofs Go.RowKit Go.Shelf Go.Lib Go.Maps Go.Proofs.YtgolghimefageaaW.PrintWords Go.Proofs.YtgolghimefageaaW.PrintLast Go.Proofs.YtgolghimefageaaW.PrintMore Go.Proofs.Ytgolghimefageaa.St
theorem ptrs_ins (E : List El) (y : El) (k : Nat) : (ptrs E).take k ++ .pointer (some ⟨y.p, 0, none⟩) :: (ptrs E).drop k = ptrs (E.take k ++ y :: E.drop k) := by
  unfold ptrs
  rw [List.map_append, List.map_cons, List.map_take, List.map_drop]
theorem ptrs_one (E : List El) : ∀ v ∈ ptrs E, v.oneCell' = true := by
  intro v hv
  obtain ⟨x, _, rfl⟩ := List.mem_map.1 hv
  rfl
set_option maxRecDepth 100000 in
set_option maxHeartbeats 4000000 in
theorem place_calls {n0 : Nat} {w : World} {P : Nat → Prop} {b : Nat} {vl : Value} {mb nm : Nat} {E : List El} {y : El} {most came next : Int} (h : QMid n0 w P b vl mb nm E y most came next) (hE : E.length ≤ 65536) (hc : 0 ≤ came ∧ came < 4611686018427387904) :
    Calls Try.prog 39 #[.pointer (some ⟨b, 0, none⟩), .pointer (some ⟨y.p, 0, none⟩)] w fun e w' => e = .returned (.tuple #[]) ∧ ∃ vl', QAt n0 w' (fun k => P k ∨ w.heap.size ≤ k) b vl' mb nm (ins E (y.at came)) most (came + 1) next ∧ Kept w w' P ∧ Below n0 w w' := by
  obtain ⟨a1, a2, a3, a4, a5, a6, a7⟩ := h.apart
  have hM := h.comes (came + 1) (by omega)
  have hB1 : Below n0 w ((w.setCell ⟨y.p, 2, none⟩ (.int .i64 came)).setCell ⟨b, 1, none⟩ (.int .i64 (came + 1))) := ((Below.refl n0 w).setCell (p := ⟨y.p, 2, none⟩) (h.hP _ h.py) _).setCell (p := ⟨b, 1, none⟩) (h.hP _ h.pb) _
  have hK1 : Kept w ((w.setCell ⟨y.p, 2, none⟩ (.int .i64 came)).setCell ⟨b, 1, none⟩ (.int .i64 (came + 1))) P := ((Kept.refl w P).setCell (p := ⟨y.p, 2, none⟩) (.inl h.py) _).setCell (p := ⟨b, 1, none⟩) (.inl h.pb) _
  have hs1 : ((w.setCell ⟨y.p, 2, none⟩ (.int .i64 came)).setCell ⟨b, 1, none⟩ (.int .i64 (came + 1))).heap.size = w.heap.size := by simp
  have c1 : w.cell? ⟨b, 1, none⟩ = some (.int .i64 came) := cells_at h.blk 1 _ rfl
  have f1 := frozen_at h.blk 1
  have y2 := h.ely.cells.2.2.1
  have fy : w.frozen? ⟨y.p, 2, none⟩ = false := frozen_at h.ely 2
  have d1 : (w.setCell ⟨y.p, 2, none⟩ (.int .i64 came)).cell? ⟨b, 1, none⟩ = some (.int .i64 came) := cells_at (cells_other h.blk y.p 2 _ (Ne.symm a4)) 1 _ rfl
  have g1 : (w.setCell ⟨y.p, 2, none⟩ (.int .i64 came)).frozen? ⟨b, 1, none⟩ = false := frozen_at (cells_other h.blk y.p 2 (.int .i64 came) (Ne.symm a4)) 1
  have hsearch := search_calls hM.row hM.els (y.at came) hM.ely hE hM.good.sorted
  have c3 := cells_at hM.blk 3 vl rfl
  have hz : wrap64 (came + 1) = came + 1 := by unfold wrap64; omega
  have hn0 : n0 ≤ w.heap.size := by have := h.hP _ h.pb; have := h.lt; omega
  have HG := Aside0.mk (And.intro h.good hc.1)
  have HM := Aside0.mk (And.intro hM (And.intro hB1 hK1))
  have HN := Go.Lib.hid (And.intro hn0 (And.intro hE hs1))
  have HA := Aside0.mk (And.intro h.lt (h.row.lt))
  obtain ⟨va, vc, hvl⟩ := own_form h.row
  subst hvl
  clear h hM hB1 hK1 hs1 a1 a2 a3 a4 a5 a6 a7 hE hc hn0
  go_enter Try.func39, Try.ntmps39
  go_wp2_with (first
    | (go_at_call 56; refine hsearch.mono ?_; rintro e w2 ⟨p, t, rfl, hp, hlo, hhi, hB2⟩; have HQ := Aside0.mk (And.intro hp (And.intro hlo hhi)); have HP2 := Aside0.mk (And.intro (HM.out.1.below hB2) (And.intro (HM.out.2.1.trans (hB2.mono (by have := HN.out; omega))) (And.intro (HM.out.2.2.below hB2) (by have := HN.out.2.2; have := hB2.size; omega : w.heap.size ≤ w2.heap.size)))); have c2 := cells_at HP2.out.1.blk 3 (.slice va E.length vc) rfl; have f2 := frozen_at HP2.out.1.blk 3; clear hp hlo hhi hB2 hsearch c3)
    | (go_at_call 58; refine (insert_calls (i := p) (vb := w2.heap.size) (x := .pointer (some ⟨y.p, 0, none⟩)) (HP2.out.1.row.alloc _) (by have := HN.out; have := HP2.out.2.2.2; simp; omega) HQ.out.1 HN.out.2.1 (by intro e; have := (HP2.out.1.row.lt _ e).2; omega) (heap_alloc_new w2 _) rfl (ptrs_one E)).mono ?_; rintro e w4 ⟨vl', rfl, hown4, hgrow, hat⟩; have hg4 : w2.grownBy w4 (Value.slice va E.length vc).ownBlock := grown_of (k := 0) hgrow; have hlt2 := HP2.out.1.lt; have hne2 := HP2.out.1.apart.2.1; have c4 := hg4.cell c2 (Ne.symm hne2); have f4 : w4.frozen? ⟨b, 3, none⟩ = false := (World.frozen?_of_block (hg4.block b hlt2 (Ne.symm hne2))).trans f2; have H4 := Aside0.mk (And.intro hg4 (And.intro hown4 hat)); obtain ⟨va4, vc4, hv4⟩ := own_form hown4; subst hv4; clear hg4 hown4 hgrow hat hlt2 hne2 c2 f2))
  go_end0
  obtain ⟨hg4, hown4, hat⟩ := H4.out
  have hsz2 : (w2.alloc (.cells #[.pointer (some ⟨y.p, 0, none⟩)] 100)).heap.size = w2.heap.size + 1 := World.size_alloc _ _
  have hp2 := HP2.out.1
  have hle := HP2.out.2.2.2
  have e1 : (ptrs E).take p ++ .pointer (some ⟨y.p, 0, none⟩) :: (ptrs E).drop p = ptrs (ins E (y.at came)) := by
    rw [← ins_eq (y.at came) E p HQ.out.1 HQ.out.2.1 HQ.out.2.2]
    exact ptrs_ins E (y.at came) p
  rw [e1] at hown4
  refine ⟨rfl, _, (hp2.placed HG.out.1 HG.out.2 hg4 hown4 ?_ (by have := HN.out.1; omega)).mono ?_ ?_, ?_, ?_⟩
  · rcases hat with e | e
    · exact .inl e
    · exact .inr (fun k hk => by have := e k hk; omega)
  · rintro k (hk | hk)
    · exact .inl hk
    · exact .inr (by omega)
  · rintro k (hk | hk)
    · exact hp2.hP k hk
    · have := HN.out.1; omega
  · exact (Kept.of_grown hg4 HP2.out.2.2.1 (fun k hk => .inl (hp2.pl k hk))).setCell (p := ⟨b, 3, none⟩) (.inl hp2.pb) _
  · exact (HP2.out.2.1.grown hg4 (by have := HN.out.1; omega) (fun k hk => hp2.hP k (hp2.pl k hk))).setCell (p := ⟨b, 3, none⟩) (hp2.hP _ hp2.pb) _
end Go.Proofs.Ytgolghimefageaa.QW
