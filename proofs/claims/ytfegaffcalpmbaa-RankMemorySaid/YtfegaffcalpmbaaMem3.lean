/- Two lots of rows beside one another: what is done to the one keeps the other. -/
import Derived.Test.YtfegaffcalpmbaaMem2
namespace Go.Proofs.Ytfegaffcalpmbaa.Mem
set_option linter.unusedVariables false
open Go Go.Proofs Go.RowKit Go.Proofs.YtfegaffcalpmbaaW.PrintWords
section
variable {K K' : IntKind} {e eo e' eo' : Nat} {w W W1 : World} {us vs us' vs' : List Value} {xss xss' : List (List Int)} {kv kv' : Value}
/-- A row of another type has grown. -/
theorem MM.grownO (h : MM K e eo w W us xss kv vs) {b e2 s n : Nat} {v : Value} {ys : List Value} (ho : W.ownsRow b e2 s v n ys) (h1 : e ≠ e2) (h2 : eo ≠ e2) (hg : W.grownBy W1 v.ownBlock) (hB : Below w.heap.size w W1) : MM K e eo w W1 us xss kv vs :=
  ⟨⟨h.lot.len, fun i u xs hv hx => own_other (h.lot.own i u xs hv hx) hg (own_type_ne (h.lot.own i u xs hv hx) ho h1), h.lot.apart⟩, own_other h.row hg (own_type_ne h.row ho h2), hB⟩
/-- A number of a row of another type is written. -/
theorem MM.setO (h : MM K e eo w W us xss kv vs) {b e2 n c m g : Nat} {ys : List Value} (ho : W.ownsRow b e2 1 (.slice (some ⟨g, 0, none⟩) n c) m ys) (h1 : e ≠ e2) (h2 : eo ≠ e2) (hb : w.heap.size ≤ g) (j : Nat) (u : Value) : MM K e eo w (W.setCell ⟨g, j, none⟩ u) us xss kv vs := by
  refine ⟨⟨h.lot.len, fun i v xs hv hx => own_setCell (h.lot.own i v xs hv hx) (fun q => ?_) _, h.lot.apart⟩, own_setCell h.row (fun q => ?_) _, h.bel.os, h.bel.tape, h.bel.output, by simpa using h.bel.size, fun k hk => ?_⟩
  · rcases own_type_ne (h.lot.own i v xs hv hx) ho h1 with r | r
    · rw [r] at q; cases q
    · exact r q.symm
  · rcases own_type_ne h.row ho h2 with r | r
    · rw [r] at q; cases q
    · exact r q.symm
  · rw [Below.heap_setCell W ⟨g, j, none⟩ _ k (by show k ≠ g; omega)]
    exact h.bel.block k hk
end
section
variable {P : Program} {ops : Array Oper} {rest : List Oper} {o : Oper} {a : Act} {Q : Exit → Act → World → Prop}
/-- kv = append(kv, v1, v2, ..), behind 'at_builtin'. -/
theorem wpList_append_keep {K : IntKind} {e eo : Nat} {w W : World} {us vs : List Value} {xss : List (List Int)} {kv : Value} (h : MM K e eo w W us xss kv vs) (hne : e ≠ eo) (hgd : o.guard = none) (s z : Operand) (t : TypeId) (bytes : Nat) (z0 : Value)
    (ho : o.op = .call { callee := .builtin .append, args := #[s, z], argTypes := #[t, t] })
    (ht : P.underlying t = some (.slice eo)) (hinfo : (P.info? eo).map (fun i => (i.zero, i.size, i.bytes)) = some (some z0, 1, bytes)) (hz : z0.cells.size = 1) (hb0 : 0 < bytes)
    (news : List Value) (c : Nat) (h1 : ∀ u ∈ news, u.oneCell' = true) (hs : a.eval s = kv) (hx : a.eval z = .slice (some ⟨W.heap.size, 0, none⟩) news.length c) (hl : (vs.length + news.length) * bytes ≤ 140737488355328)
    (hc : ∀ kv' W1, MM K e eo w W1 us xss kv' (vs ++ news) → W.grownBy W1 kv.ownBlock → wpList P ops Q rest (a.put o.dst kv') W1) :
    wpList P ops Q (o :: rest) a (W.alloc (.cells news.toArray eo)) := by
  obtain ⟨i0, hi, hzz⟩ := Option.map_eq_some_iff.1 hinfo
  simp only [Prod.mk.injEq] at hzz
  obtain ⟨hz0, hz1, hz2⟩ := hzz
  have hlen : vs.length + news.length ≤ 140737488355328 := Nat.le_trans (Nat.le_mul_of_pos_right _ hb0) hl
  have h2 := h.keep (below_alloc (Below.refl _ W) (.cells news.toArray eo))
  refine wpList_append_own (W.alloc (.cells news.toArray eo)) hgd s z t ho w.heap.size eo i0 z0 1 bytes ht hi hz0 hz1 hz2 hz (by omega) kv vs.length vs hs h2.row ⟨W.heap.size, 0, none⟩ news.length c news hx (by omega) ?_ h1 (by simp only [maxLen]; omega) hl h2.bel.size ?_
  · simpa using World.news_of_block (cs := news.toArray) (t := eo) (fr := (0, 0)) (heap_alloc_new W (.cells news.toArray eo))
  · intro kv' W1 hown hg _
    exact hc kv' W1 (h2.app hne (by simp) hown hg) (World.grownBy.trans (World.grownBy_alloc W _ _) hg)
/-- g = append(g, x), behind 'at_builtin', and what has grown. -/
theorem wpList_append_kept2 {K : IntKind} {e eo : Nat} {w W : World} {us vs : List Value} {xss : List (List Int)} {kv gv : Value} {ys : List Int} (h : GG K e eo w W us xss kv vs gv ys) (hne : e ≠ eo) (hgd : o.guard = none) (s z : Operand) (t : TypeId) (bytes : Nat)
    (ho : o.op = .call { callee := .builtin .append, args := #[s, z], argTypes := #[t, t] })
    (ht : P.underlying t = some (.slice e)) (hinfo : (P.info? e).map (fun i => (i.zero, i.size, i.bytes)) = some (some (.int K 0), 1, bytes)) (hb0 : 0 < bytes)
    (x : Int) (hs : a.eval s = gv) (hx : a.eval z = .slice (some ⟨W.heap.size, 0, none⟩) 1 1) (hl : (ys.length + 1) * bytes ≤ 140737488355328)
    (hc : ∀ gv' W1, GG K e eo w W1 us xss kv vs gv' (ys ++ [x]) → W.grownBy W1 gv.ownBlock → wpList P ops Q rest (a.put o.dst gv') W1) :
    wpList P ops Q (o :: rest) a (W.alloc (.cells #[.int K x] e)) := by
  obtain ⟨i0, hi, hzz⟩ := Option.map_eq_some_iff.1 hinfo
  simp only [Prod.mk.injEq] at hzz
  obtain ⟨hz0, hz1, hz2⟩ := hzz
  have hlen : ys.length + 1 ≤ 140737488355328 := Nat.le_trans (Nat.le_mul_of_pos_right _ hb0) hl
  have h2 := h.alloc (.cells #[.int K x] e)
  refine wpList_append_past (W.alloc (.cells #[.int K x] e)) hgd s z t ho w.heap.size e i0 (.int K 0) 1 bytes ht hi hz0 hz1 hz2 rfl (by omega) gv ys.length (nums K ys) hs h2.own ⟨W.heap.size, 0, none⟩ 1 1 [.int K x] hx rfl ?_ (fun u hu => by rw [List.mem_singleton.1 hu]; rfl) (by simp only [maxLen]; omega) hl h2.mm.bel.size ?_
  · exact World.news_of_block (cs := #[.int K x]) (t := e) (fr := (0, 0)) (heap_alloc_new W (.cells #[.int K x] e))
  · intro gv' W1 hown hg hp hat
    exact hc gv' W1 (h2.app hne hown hg hp hat) (World.grownBy.trans (World.grownBy_alloc W _ _) hg)
end
end Go.Proofs.Ytfegaffcalpmbaa.Mem
