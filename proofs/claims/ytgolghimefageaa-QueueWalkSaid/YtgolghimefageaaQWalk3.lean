/- QueueWalk: while the keys are put in: the queue and the document's list. -/
import Derived.RangeFuncBox
import Derived.Test.YtgolghimefageaaQWO
import Derived.Test.YtgolghimefageaaQWalk2
namespace Go.Proofs.Ytgolghimefageaa.QW
set_option linter.unusedVariables false
open Go.Proofs Go.RowKit Go.Shelf Go.Proofs.YtgolghimefageaaW.PrintWords Go.Proofs.YtgolghimefageaaW.PrintLast Go.Proofs.YtgolghimefageaaW.PrintMore Go.Proofs.Ytgolghimefageaa.St Go.Proofs.Ytgolghimefageaa.C
/-- The blocks of a queue. -/
def Foot (b : Nat) (vl : Value) (mb : Nat) (E : List El) (k : Nat) : Prop := k = b ∨ k = mb ∨ vl.ownBlock = some k ∨ ∃ x ∈ E, k = x.p
section
variable {n0 : Nat} {w : World} {P : Nat → Prop} {b : Nat} {vl : Value} {mb nm : Nat} {E : List El} {most came next : Int}
theorem QAt.foot_in (h : QAt n0 w P b vl mb nm E most came next) (k : Nat) (hk : Foot b vl mb E k) : P k := by
  rcases hk with rfl | rfl | hk | ⟨x, hx, rfl⟩
  · exact h.pb
  · exact h.pm
  · exact h.pl k hk
  · exact h.pe x hx
theorem QAt.exact_ (h : QAt n0 w P b vl mb nm E most came next) : QAt n0 w (Foot b vl mb E) b vl mb nm E most came next :=
  ⟨fun k hk => h.hP k (h.foot_in k hk), .inl rfl, .inr (.inl rfl), fun k e => .inr (.inr (.inl e)), fun x hx => .inr (.inr (.inr ⟨x, hx, rfl⟩)), h.blk, h.row, h.els, h.map, h.good⟩
theorem QAt.typed (h : QAt n0 w P b vl mb nm E most came next) (k : Nat) (hk : Foot b vl mb E k) : (∃ c, w.heap[k]? = some (.cells c 99 (0, 0))) ∨ (∃ c, w.heap[k]? = some (.cells c 100 (0, 0))) ∨ (∃ c, w.heap[k]? = some (.cells c 102 (0, 0))) ∨ (k = mb ∧ ∃ es cl, w.heap[k]? = some (.map es cl)) := by
  rcases hk with rfl | rfl | hk | ⟨x, hx, rfl⟩
  · exact .inl ⟨_, h.blk⟩
  · obtain ⟨D, ⟨es, cl, hm, _⟩, _⟩ := h.map
    exact .inr (.inr (.inr ⟨rfl, es, cl, hm⟩))
  · exact .inr (.inl (own_typed h.row k hk))
  · exact .inr (.inr (.inl ⟨_, h.els x hx⟩))
theorem QAt.lt_of (h : QAt n0 w P b vl mb nm E most came next) (k : Nat) (hk : Foot b vl mb E k) : k < w.heap.size := by
  rcases h.typed k hk with ⟨c, e⟩ | ⟨c, e⟩ | ⟨c, e⟩ | ⟨_, es, cl, e⟩ <;> exact (Array.getElem?_eq_some_iff.1 e).1
theorem QAt.notin (h : QAt n0 w P b vl mb nm E most came next) {k : Nat} {c : Array Value} {t : TypeId} (hk : w.heap[k]? = some (.cells c t (0, 0))) (h1 : t ≠ 99) (h2 : t ≠ 100) (h3 : t ≠ 102) : ¬ Foot b vl mb E k := by
  intro hf
  rcases h.typed k hf with ⟨c', e⟩ | ⟨c', e⟩ | ⟨c', e⟩ | ⟨_, es, cl, e⟩
  · rw [hk] at e; injection e with e; injection e with _ e _; exact h1 e
  · rw [hk] at e; injection e with e; injection e with _ e _; exact h2 e
  · rw [hk] at e; injection e with e; injection e with _ e _; exact h3 e
  · rw [hk] at e; cases e
end
theorem row_own {w : World} {base : Nat} {P : Nat → Prop} {v : Value} {L : List S68} (h : Kd.R k68 68 w base P v L) : Kd.R k68 68 w base (fun k => v.ownBlock = some k) v L :=
  Kd.R_flat (fun h => h) h (fun _ hk _ => hk)
theorem row_typed {w : World} {base : Nat} {P : Nat → Prop} {v : Value} {L : List S68} (h : Kd.R k68 68 w base P v L) (k : Nat) (hk : v.ownBlock = some k) : ∃ c, w.heap[k]? = some (.cells c 68 (0, 0)) := by
  obtain ⟨inner, ho⟩ := Kd.R_own h
  exact own_typed ho k hk
/-- Behind some keys. -/
structure LW (w W : World) (b qB mB : Nat) (leave : Int) (E : List El) (L : List S68) (nx mnx : Int) (lv : Value) : Prop where
  q : ∃ vl mb nm came, QAt w.heap.size W (Foot b vl mb E) b vl mb nm E 65536 came nx ∧ nm ≤ E.length ∧ 0 ≤ came ∧ came ≤ (E.length : Int)
  nxl : nx = (E.length : Int)
  len : E.length ≤ 65536
  v : ∀ x ∈ E, x.v = x.ticket
  bE : Boxed W w.heap.size 3 (.int .i64 leave)
  bR : Boxed W (w.heap.size + 1) 4 (.bool false)
  bQ : Boxed W qB 56 (.pointer (some ⟨b, 0, none⟩))
  bM : W.heap[mB]? = some (.cells #[.int .i64 65536, lv, .int .i64 mnx] 54 (0, 0))
  row : Kd.R k68 68 W w.heap.size (fun k => lv.ownBlock = some k) lv L
  hm : w.heap.size ≤ mB
  bel : Below w.heap.size w W
theorem LW.put_yes {w W : World} {b qB mB : Nat} {leave : Int} {E : List El} {L : List S68} {nx mnx : Int} {lv : Value} (h : LW w W b qB mB leave E L nx mnx lv) (hlt : E.length < 65536) (k : Int) :
    Calls Try.prog 23 #[.pointer (some ⟨b, 0, none⟩), .int .i64 k, .int .i64 nx] W fun e w' => e = .returned (.tuple #[.int .i64 nx, .int .i64 0]) ∧ ∃ y : El, y.k = k ∧ y.ticket = nx ∧ (∀ x ∈ E, x.came < y.came) ∧ LW w w' b qB mB leave (ins E y) L (nx + 1) mnx lv := by
  obtain ⟨vl, mb, nm, came, hQ, hnm, hc0, hc1⟩ := h.q
  have hn := h.nxl
  refine (put_calls hQ k nx (by omega) h.len (by omega) (by omega) (by omega)).mono ?_
  rintro e w' ⟨rfl, vl', p, hQ', hK, hB⟩
  have hl : (ins E ⟨p, k, nx, came, nx⟩).length = E.length + 1 := ins_len E _
  refine ⟨rfl, ⟨p, k, nx, came, nx⟩, rfl, rfl, fun x hx => (hQ.good.range x hx).2.2.2, ⟨vl', mb, nm + 1, came + 1, hQ'.exact_, by rw [hl]; omega, by omega, by rw [hl]; omega⟩, by rw [hl]; omega, by rw [hl]; omega, fun x hx => ?_, ?_, ?_, ?_, ?_, ?_, h.hm, h.bel.trans hB⟩
  · rcases List.mem_cons.1 ((ins_perm _ E).mem_iff.1 hx) with rfl | hx
    · rfl
    · exact h.v x hx
  · exact blk_kept h.bE hK (hQ.notin h.bE (by decide) (by decide) (by decide))
  · exact blk_kept h.bR hK (hQ.notin h.bR (by decide) (by decide) (by decide))
  · exact blk_kept h.bQ hK (hQ.notin h.bQ (by decide) (by decide) (by decide))
  · exact blk_kept h.bM hK (hQ.notin h.bM (by decide) (by decide) (by decide))
  · exact Kd.R_kept h.row hK (fun k hk => by
      obtain ⟨c, hc⟩ := row_typed h.row k hk
      exact hQ.notin hc (by decide) (by decide) (by decide))
theorem LW.put_no {w W : World} {b qB mB : Nat} {leave : Int} {E : List El} {L : List S68} {nx mnx : Int} {lv : Value} (h : LW w W b qB mB leave E L nx mnx lv) (hlt : ¬ E.length < 65536) (k v : Int) :
    Calls Try.prog 23 #[.pointer (some ⟨b, 0, none⟩), .int .i64 k, .int .i64 v] W fun e w' => e = .returned (.tuple #[.int .i64 0, .int .i64 61]) ∧ LW w w' b qB mB leave E L nx mnx lv := by
  obtain ⟨vl, mb, nm, came, hQ, hnm, hc0, hc1⟩ := h.q
  refine (put_full hQ k v (by omega)).mono ?_
  rintro e w' ⟨rfl, q, rfl⟩
  have hB : Below W.heap.size W (W.drewN q) := pw_below_drewN (Below.refl _ _) q
  exact ⟨rfl, ⟨vl, mb, nm, came, hQ.below hB, hnm, hc0, hc1⟩, h.nxl, h.len, h.v, h.bE, h.bR, h.bQ, h.bM, Kd.R_below h.row hB, h.hm, h.bel.trans (hB.mono h.bel.size)⟩
theorem LW.ref {w W : World} {b qB mB : Nat} {leave : Int} {E : List El} {L L' : List S68} {nx mnx r3 r4 r5 : Int} {lv : Value} (h : LW w W b qB mB leave E L nx mnx lv) (k : Int) (K : Nat) (hr : r06_Put.f K 65536 L mnx k ⟨#[]⟩ = some (65536, L', r3, r4, r5)) :
    Calls Try.prog 24 #[.agg #[.int .i64 65536, lv, .int .i64 mnx], .int .i64 k, .string ⟨#[]⟩] W fun e w' => ∃ lv', e = .returned (.tuple #[.agg #[.int .i64 65536, lv', .int .i64 r3], .int .i64 r4, .int .i64 r5]) ∧ w'.heap[mB]? = some (.cells #[.int .i64 65536, lv, .int .i64 mnx] 54 (0, 0)) ∧ (∃ a c, lv' = .slice a L'.length c) ∧
      LW w (((w'.setCell ⟨mB, 0, none⟩ (.int .i64 65536)).setCell ⟨mB, 1, none⟩ lv').setCell ⟨mB, 2, none⟩ (.int .i64 r3)) b qB mB leave E L' nx r3 lv' := by
  obtain ⟨vl, mb, nm, came, hQ, hnm, hc0, hc1⟩ := h.q
  refine (r06_Put.calls K 65536 (fun k => lv.ownBlock = some k) lv L mnx k ⟨#[]⟩ 65536 L' r3 r4 r5 w W h.bel h.row hr).mono ?_
  rintro e w' ⟨lv', rfl, hR, hB, hK⟩
  have hno : ∀ {k : Nat} {c : Array Value} {t : TypeId}, W.heap[k]? = some (.cells c t (0, 0)) → t ≠ 68 → ¬ (lv.ownBlock = some k) := fun {k c t} hk ht e => by
    obtain ⟨c', hc⟩ := row_typed h.row k e
    rw [hk] at hc
    injection hc with hc
    injection hc with _ hc _
    exact ht hc
  have hM := blk_kept h.bM hK (hno h.bM (by decide))
  have hQ2 : QAt w.heap.size w' (Foot b vl mb E) b vl mb nm E 65536 came nx := hQ.kept hK (fun k hk e => by
    obtain ⟨c', hc⟩ := row_typed h.row k e
    exact hQ.notin hc (by decide) (by decide) (by decide) hk)
  have hE2 := blk_kept h.bE hK (hno h.bE (by decide))
  have hR2 := blk_kept h.bR hK (hno h.bR (by decide))
  have hQb2 := blk_kept h.bQ hK (hno h.bQ (by decide))
  have hS : Kept w' (((w'.setCell ⟨mB, 0, none⟩ (.int .i64 65536)).setCell ⟨mB, 1, none⟩ lv').setCell ⟨mB, 2, none⟩ (.int .i64 r3)) (fun k => k = mB) := (((Kept.refl w' (fun k => k = mB)).setCell (p := ⟨mB, 0, none⟩) (.inl rfl) _).setCell (p := ⟨mB, 1, none⟩) (.inl rfl) _).setCell (p := ⟨mB, 2, none⟩) (.inl rfl) _
  have hne : ∀ {k : Nat} {c : Array Value} {t : TypeId}, w'.heap[k]? = some (.cells c t (0, 0)) → t ≠ 54 → ¬ (k = mB) := fun {k c t} hk ht e => by
    rw [e, hM] at hk
    injection hk with hk
    injection hk with _ hk _
    exact ht hk.symm
  obtain ⟨A, cc, hlv, _, _⟩ := Kd.R_reads hR
  refine ⟨lv', rfl, hM, ⟨A, cc, hlv⟩, ⟨vl, mb, nm, came, hQ2.kept hS (fun k hk e => hQ2.notin hM (by decide) (by decide) (by decide) (by have e : k = mB := e; rw [← e]; exact hk)), hnm, hc0, hc1⟩, h.nxl, h.len, h.v, ?_, ?_, ?_, ?_, ?_, h.hm, ?_⟩
  · exact blk_kept hE2 hS (hne hE2 (by decide))
  · exact blk_kept hR2 hS (hne hR2 (by decide))
  · exact blk_kept hQb2 hS (hne hQb2 (by decide))
  · exact cells_set (cells_set (cells_set hM 0 _) 1 _) 2 _
  · exact Kd.R_kept (row_own hR) hS (fun k hk => by
      obtain ⟨c, hc⟩ := row_typed hR k hk
      exact hne hc (by decide))
  · exact ((hB.setCell (p := ⟨mB, 0, none⟩) h.hm _).setCell (p := ⟨mB, 1, none⟩) h.hm _).setCell (p := ⟨mB, 2, none⟩) h.hm _
end Go.Proofs.Ytgolghimefageaa.QW
