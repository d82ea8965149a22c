/- A queue: slices.Index and slices.Delete at its elements: the shelf's contracts, laid here. -/
import Derived.Lib.OwnBridge
import Derived.LaidEql
import Derived.Ground.SlgnProg
import Derived.Test.YtgolghimefageaaQWG
namespace Go.Proofs.Ytgolghimefageaa.QW
open Go.Proofs Go.RowKit Go.Shelf Go.Lib Go.Sort Go.Maps Go.Proofs.YtgolghimefageaaW.PrintWords Go.Proofs.YtgolghimefageaaW.PrintLast Go.Proofs.YtgolghimefageaaW.PrintMore Go.Proofs.Ytgolghimefageaa.St
def renX : Go.Shelf.Ren := ⟨fun | 45 => 61 | n => n, fun | 23 => 100 | 22 => 97 | 3 => 3 | 4 => 4 | 0 => 0 | n => n, fun | n => n⟩
theorem laysD : Go.Proofs.SlLaysE.n45 Try.prog renX := {
  mixed := by kernel_rfl
  f45 := ⟨Try.f61.name, by decide, Try.func61.trans (congrArg some (by kernel_rfl))⟩
  t0 := Try.underlying0
  a0 := Try.isAgg0
  z0 := Try.sizeOf0
  v0 := Try.zeroValue0
  t3 := Try.underlying3
  a3 := Try.isAgg3
  z3 := Try.sizeOf3
  v3 := Try.zeroValue3
  t4 := Try.underlying4
  a4 := Try.isAgg4
  z4 := Try.sizeOf4
  v4 := Try.zeroValue4
  t22 := Try.underlying97
  a22 := Try.isAgg97
  z22 := Try.sizeOf97
  v22 := Try.zeroValue97
  a23 := Try.isAgg100
  z23 := Try.sizeOf100 }
def encO (p : Option Nat) : Value := .pointer (p.map fun p => ⟨p, 0, none⟩)
theorem eqin (d p q : Nat) (w : World) {ca cb : Array Value} {ta tb : TypeId} (hp : w.heap[p]? = some (.cells ca ta (0, 0))) (hq : w.heap[q]? = some (.cells cb tb (0, 0))) : (Op.equalIn (d + 1) 100 (.pointer (some ⟨p, 0, none⟩)) (.pointer (some ⟨q, 0, none⟩))).run Try.prog w = .ok (decide (p = q)) w := by
  by_cases e : p = q
  · subst e
    simp [Op.equalIn, run_underlying Try.underlying100, run_sameAddr_same]
  · have h := run_sameAddr_other (P := Try.prog) w (a := ⟨p, 0, none⟩) (b := ⟨q, 0, none⟩) (fun h => e (by injection h)) hp hq
    simp [Op.equalIn, run_underlying Try.underlying100, h, e]
theorem eqel (p q : Nat) (w : World) {ca cb : Array Value} {ta tb : TypeId} (hp : w.heap[p]? = some (.cells ca ta (0, 0))) (hq : w.heap[q]? = some (.cells cb tb (0, 0))) : (binOp .eql 100 (.pointer (some ⟨p, 0, none⟩)) (.pointer (some ⟨q, 0, none⟩))).run Try.prog w = .ok (.bool (decide (p = q))) w := by
  have h : (Op.equal 100 (.pointer (some ⟨p, 0, none⟩)) (.pointer (some ⟨q, 0, none⟩))).run Try.prog w = .ok (decide (p = q)) w := eqin 9999 p q w hp hq
  simp only [binOp]
  simp [h]
set_option maxRecDepth 100000 in
set_option maxHeartbeats 2000000 in
theorem index_calls {n0 : Nat} {w : World} {vl : Value} {E : List El} (hown : w.ownsRow n0 100 1 vl E.length (ptrs E)) (hels : ∀ x ∈ E, ElAt w x) (i : Nat) (hi : i < E.length) (hE : E.length ≤ 65536) (hnd : (E.map El.p).Nodup) :
    Calls Try.prog 60 #[vl, .pointer (some ⟨E[i]!.p, 0, none⟩)] w fun e w' => e = .returned (.int .i64 (i : Int)) ∧ w' = w := by
  obtain ⟨g, cap, rfl, _, _⟩ := own_some hown (by omega)
  have hmem : ∀ j, j < E.length → E[j]! ∈ E := fun j hj => by rw [getElem!_pos E j hj]; exact List.getElem_mem hj
  have HC : Aside0 (∀ j, j < E.length → w.cell? ⟨g, j, none⟩ = some (.pointer (some ⟨E[j]!.p, 0, none⟩))) := ⟨fun j hj => own_cell hown j _ (by
    unfold ptrs
    rw [List.getElem?_map, List.getElem?_eq_getElem hj, getElem!_pos E j hj]
    rfl)⟩
  have HQ : Aside0 (∀ j, j ≤ i → (binOp .eql 100 (.pointer (some ⟨E[i]!.p, 0, none⟩)) (.pointer (some ⟨E[j]!.p, 0, none⟩))).run Try.prog w = .ok (.bool (decide (i = j))) w) := ⟨fun j hj => by
    rw [eqel _ _ w (hels _ (hmem i hi)) (hels _ (hmem j (by omega)))]
    congr 3
    refine propext ⟨fun e => ?_, fun e => by rw [e]⟩
    by_cases c : j < i
    · have h1 := List.pairwise_iff_getElem.1 hnd j i (by rw [List.length_map]; omega) (by rw [List.length_map]; omega) c
      rw [List.getElem_map, List.getElem_map, ← getElem!_pos E j (by omega), ← getElem!_pos E i hi] at h1
      exact absurd e.symm h1
    · omega⟩
  have HI := Go.Lib.hid (And.intro hi hE)
  obtain ⟨p, hp⟩ : ∃ p, p = E[i]!.p := ⟨_, rfl⟩
  have HP := Go.Lib.hid hp
  rw [← hp]
  clear hown hels hmem hi hE hnd hp
  go_enter Try.func60, Try.ntmps60
  go_wp2
  go_loopg [8] (i + 1) (fun kx s8 wr => ∃ j : Nat, s8 = .int .i64 (j : Int) ∧ Hid (j ≤ i ∧ i - j < kx) ∧ wr = w)
  case atStart => exact ⟨0, rfl, ⟨Nat.zero_le _, by omega⟩, rfl⟩
  case round =>
    obtain ⟨j, rfl, hj, rfl⟩ := hrel
    have hj1 := hj.out
    have hi1 := HI.out
    have hc := HC.out j (by omega)
    have hq := HQ.out j hj1.1
    rw [← HP.out] at hq
    obtain ⟨q, eq⟩ : ∃ q, q = E[j]!.p := ⟨_, rfl⟩
    rw [← eq] at hc hq
    have z1 : (j : Int) < (E.length : Int) := by omega
    have z1' : j < E.length := by omega
    have z2 : (0 : Int) ≤ (j : Int) := by omega
    by_cases c : i = j
    · have zc : decide (i = j) = true := decide_eq_true c
      rw [zc] at hq
      have HCC := Go.Lib.hid c
      clear hj1 hi1 eq c zc
      go_wp2
      go_ret
      exact ⟨by rw [HCC.out]; rfl, rfl⟩
    · have zc : decide (i = j) = false := decide_eq_false c
      rw [zc] at hq
      have HCC := Go.Lib.hid c
      have z3 : wrap64 ((j : Int) + 1) = ((j + 1 : Nat) : Int) := by unfold wrap64; omega
      clear hj1 hi1 eq c zc
      go_wp2
      go_roundg (i - j)
      case measure => exact hj.out.2
      case rel =>
        have hj1 := hj.out
        have hcc : ¬ (i = j) := HCC.out
        exact ⟨j + 1, (by show Value.int .i64 (wrap64 ((j : Int) + 1)) = _; rw [z3]), ⟨by omega, by omega⟩, rfl⟩
theorem delete_calls {n0 : Nat} {w : World} {vl : Value} {E : List El} (hown : w.ownsRow n0 100 1 vl E.length (ptrs E)) (i : Nat) (hi : i < E.length) (hE : E.length ≤ 65536) :
    Calls Try.prog 61 #[vl, .int .i64 (i : Int), .int .i64 ((i : Int) + 1)] w fun e w' => ∃ vl', e = .returned vl' ∧ w'.ownsRow n0 100 1 vl' (E.length - 1) (ptrs (E.eraseIdx i)) ∧ w.grownBy w' vl.ownBlock ∧ vl'.ownBlock = vl.ownBlock := by
  obtain ⟨i0, hi0, hz0, hzs, hzb⟩ := info_parts infoP
  obtain ⟨D, hD⟩ : ∃ D, D = E.map fun x => some x.p := ⟨_, rfl⟩
  have hDl : D.length = E.length := by rw [hD]; exact List.length_map _
  have hm : ptrs E = D.map encO := by rw [hD, List.map_map]; rfl
  rw [hm] at hown
  obtain ⟨g0, cap0, hv, _, _⟩ := own_some hown (by omega)
  obtain ⟨g, cap, rfl, hb, hlt, hn, hmx, hl, hH⟩ := holds_of_ownsRow hown (by rw [hv]; intro e; cases e)
  have hne : D ≠ [] := fun e => by rw [e] at hDl; simp at hDl; omega
  have hsz : D.toArray.size = E.length := by rw [List.size_toArray]; exact hDl
  have h := AnyE.slices_Delete laysD encO (fun _ => rfl) none (fun w => Try.zeroValue100 w) i0 hi0 hzs g 0 cap i (i + 1) D.toArray w hH (by omega) (by unfold maxLen at hmx; exact hmx) (by omega) (by omega)
  rw [hsz] at h
  refine h.mono ?_
  rintro e w' ⟨rfl, q, rfl⟩
  have e1 : E.length - (i + 1 - i) = E.length - 1 := by omega
  have hcut : D.take i ++ D.drop (i + 1) = D.eraseIdx i := (List.eraseIdx_eq_take_drop_succ D i).symm
  have hlen : (D.take i ++ D.drop (i + 1) ++ List.replicate (i + 1 - i) none).length = E.length := by
    rw [hcut, List.length_append, List.length_eraseIdx, List.length_replicate, if_pos (by omega)]
    omega
  have ho := ownsRow_putRow (q := q) (k := E.length - 1) hown hlen (by omega)
  have e2 : (D.take i ++ D.drop (i + 1) ++ List.replicate (i + 1 - i) none).take (E.length - 1) = D.eraseIdx i := by
    rw [hcut]
    exact List.take_left' (by rw [List.length_eraseIdx, if_pos (by omega)]; omega)
  have e3 : (D.eraseIdx i).map encO = ptrs (E.eraseIdx i) := by
    rw [hD, List.eraseIdx_eq_take_drop_succ, List.eraseIdx_eq_take_drop_succ]
    unfold ptrs
    rw [List.map_append, List.map_append, ← List.map_take, ← List.map_drop, List.map_map, List.map_map]
    rfl
  rw [e2, e3] at ho
  rw [e1]
  refine ⟨_, rfl, ho, ⟨rfl, rfl, rfl, by simp [putRow, mapBlock, Sort.ahead], fun k hk hne => ?_⟩, rfl⟩
  simp [putRow, mapBlock, Sort.ahead, Array.getElem?_modify]
  intro e
  exact absurd (by rw [e]; rfl) hne
end Go.Proofs.Ytgolghimefageaa.QW
