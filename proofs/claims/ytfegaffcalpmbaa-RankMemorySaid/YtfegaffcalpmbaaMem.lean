/- Rows that are kept beside one another, each with a block of its own: they are marked and grown. -/
import Derived.Maps.AppendAt
import Derived.Test.YtfegaffcalpmbaaKInvWordsMore
namespace Go.Proofs.Ytfegaffcalpmbaa.Mem
set_option linter.unusedVariables false
open Go Go.Proofs Go.RowKit Go.Proofs.YtfegaffcalpmbaaW.PrintWords
/-- W1 is W but for new blocks and what stands behind the first k cells of block g. -/
structure Past (W W1 : World) (g : Option Nat) (k : Nat) : Prop where
  size : W.heap.size ≤ W1.heap.size
  block : ∀ b, b < W.heap.size → some b ≠ g → W1.heap[b]? = W.heap[b]?
  own : ∀ b cur e, g = some b → W.heap[b]? = some (.cells cur e (0, 0)) → ∃ cur', W1.heap[b]? = some (.cells cur' e (0, 0)) ∧ cur'.size = cur.size ∧ ∀ m, m ≤ k → cur'.toList.take m = cur.toList.take m
theorem Past.kept {W W1 : World} {g : Option Nat} {k : Nat} (h : Past W W1 g k) {base : Nat} {e : TypeId} {size n : Nat} {v : Value} {xs : List Value} (ho : W.ownsRow base e size v n xs) (hk : v.ownBlock = g → n * size ≤ k) : W1.ownsRow base e size v n xs := by
  refine ⟨ho.1, ?_⟩
  rcases ho.2 with hn | ⟨b, cap, cur, rfl, hb, hg, hc, hm, hs, ht⟩
  · exact .inl hn
  · by_cases c : g = some b
    · obtain ⟨cur', h1, h2, h3⟩ := h.own b cur e c hg
      refine .inr ⟨b, cap, cur', rfl, hb, h1, hc, hm, by rw [h2, hs], ?_⟩
      rw [h3 _ (hk (by rw [c]; rfl)), ht]
    · exact .inr ⟨b, cap, cur, rfl, hb, (h.block b (Array.getElem?_eq_some_iff.1 hg).1 (fun x => c x.symm)).trans hg, hc, hm, hs, ht⟩
section
variable {P : Program} (w : World)
theorem run_append_past (base : Nat) (t ty e : TypeId) (i : TypeInfo) (z : Value) (size bytes : Nat) (ht : P.underlying t = some (.slice e)) (hi : P.info? e = some i) (hz : i.zero = some z)
    (hsize : i.size = size) (hby : i.bytes = bytes) (hzs : z.cells.size = size) (hsz : 0 < size)
    (v : Value) (n : Nat) (xs : List Value) (hown : w.ownsRow base e size v n xs)
    (a : Addr) (m c : Nat) (news : List Value) (hl : news.length = m * size) (hnews : ∀ j u, news[j]? = some u → w.cell? (a.add j) = some u) (h1 : ∀ u ∈ news, u.oneCell' = true)
    (h63 : n + m ≤ maxLen) (hbytes : (n + m) * bytes ≤ 140737488355328) (hbase : base ≤ w.heap.size) :
    ∃ v' w', (Builtin.append_ #[t, t] ty #[v, .slice (some a) m c]).run P w = .ok v' w' ∧ w'.ownsRow base e size v' (n + m) (xs ++ news) ∧ w.grownBy w' v.ownBlock ∧ Past w w' v.ownBlock (n * size) ∧
      (v'.ownBlock = v.ownBlock ∨ v'.ownBlock = some w.heap.size) := by
  obtain ⟨v', w', hr, h2, h3, _, h5⟩ := run_append_own_at (P := P) w base t ty e i z size bytes ht hi hz hsize hby hzs hsz v n xs hown a m c news hl hnews h1 h63 hbytes hbase
  refine ⟨v', w', hr, h2, h3, ⟨h3.size, h3.block, ?_⟩, h5⟩
  rintro b cur e' hb hcur
  subst hsize
  rcases hown.2 with ⟨rfl, _⟩ | ⟨g, cap, cur0, rfl, hbg, hg, hnc, hcm, hcs, htake⟩
  · cases hb
  · have hb : g = b := by simpa [Value.ownBlock] using hb
    subst hb
    rw [hcur] at hg
    injection hg with hg
    injection hg with q1 q2 _
    subst q1
    subst q2
    by_cases hroom : n + m ≤ cap
    · have hfit : n * i.size + news.length ≤ cur.size := by rw [hl, hcs, ← Nat.add_mul]; exact Nat.mul_le_mul_right _ hroom
      have hr2 := run_append_room (P := P) w t ty e' i ht hi g n cap cur hcur a m c news hl hnews h1 hroom hfit
      rw [hr] at hr2
      injection hr2 with _ hw
      subst hw
      refine ⟨_, setRow_heap w g cur _ e' _ hcur, ?_, fun k hk => ?_⟩
      · simp only [List.size_toArray, List.length_append, List.length_take, List.length_drop, Array.length_toList]
        omega
      · show List.take k _ = _
        rw [List.append_assoc, List.take_append_of_le_length (by rw [List.length_take, Array.length_toList]; omega), List.take_take, Nat.min_eq_left hk]
    · have holds : ∀ j u, xs[j]? = some u → w.cell? ((⟨g, 0, none⟩ : Addr).add j) = some u := hown.cells (g := g) rfl
      have hr2 := run_append_grow (P := P) w t ty e' i z ht hi hz ⟨g, 0, none⟩ n cap xs hown.1 holds a m c news hl hnews (by omega) (by simp only [maxLen] at h63; omega) (growslice_fits (by omega) (by rw [hby]; exact hbytes))
      rw [hr] at hr2
      injection hr2 with _ hw
      subst hw
      exact ⟨cur, (by first | exact (heap_alloc_old w.drew _ g (Array.getElem?_eq_some_iff.1 hcur).1).trans hcur | exact (heap_alloc_old w.drew _ (Array.getElem?_eq_some_iff.1 hcur).1).trans hcur), rfl, fun _ _ => rfl⟩
theorem wp_append_past {o : Oper} {a : Act} {K : Act → World → Prop} {Q : Exit → Act → World → Prop} (s x : Operand) (t : TypeId)
    (ho : o.op = .call { callee := .builtin .append, args := #[s, x], argTypes := #[t, t] })
    (base : Nat) (e : TypeId) (i : TypeInfo) (z : Value) (size bytes : Nat) (ht : P.underlying t = some (.slice e)) (hi : P.info? e = some i) (hz : i.zero = some z)
    (hsize : i.size = size) (hby : i.bytes = bytes) (hzs : z.cells.size = size) (hsz : 0 < size)
    (v : Value) (n : Nat) (xs : List Value) (hs : a.eval s = v) (hown : w.ownsRow base e size v n xs)
    (ad : Addr) (m c : Nat) (news : List Value) (hx : a.eval x = .slice (some ad) m c) (hl : news.length = m * size) (hnews : ∀ j u, news[j]? = some u → w.cell? (ad.add j) = some u) (h1 : ∀ u ∈ news, u.oneCell' = true)
    (h63 : n + m ≤ maxLen) (hbytes : (n + m) * bytes ≤ 140737488355328) (hbase : base ≤ w.heap.size)
    (h : ∀ v' w', w'.ownsRow base e size v' (n + m) (xs ++ news) → w.grownBy w' v.ownBlock → Past w w' v.ownBlock (n * size) → (v'.ownBlock = v.ownBlock ∨ v'.ownBlock = some w.heap.size) → K (a.put o.dst v') w') : o.wp P a w K Q := by
  obtain ⟨v', w', hr, h2, h3, h4, h5⟩ := run_append_past (P := P) w base t o.type e i z size bytes ht hi hz hsize hby hzs hsz v n xs hown ad m c news hl hnews h1 h63 hbytes hbase
  unfold Oper.wp execOp
  simp only [ho, resolve, invoke, builtin, Sem.run_bind, Sem.run_pure, Result.andThen_ok, List.map_toArray, List.map_cons, List.map_nil, hs, hx, hr]
  exact h v' w' h2 h3 h4 h5
theorem wpList_append_past {ops : Array Oper} {rest : List Oper} {o : Oper} {a : Act} {Q : Exit → Act → World → Prop} (hgd : o.guard = none) (s x : Operand) (t : TypeId)
    (ho : o.op = .call { callee := .builtin .append, args := #[s, x], argTypes := #[t, t] })
    (base : Nat) (e : TypeId) (i : TypeInfo) (z : Value) (size bytes : Nat) (ht : P.underlying t = some (.slice e)) (hi : P.info? e = some i) (hz : i.zero = some z)
    (hsize : i.size = size) (hby : i.bytes = bytes) (hzs : z.cells.size = size) (hsz : 0 < size)
    (v : Value) (n : Nat) (xs : List Value) (hs : a.eval s = v) (hown : w.ownsRow base e size v n xs)
    (ad : Addr) (m c : Nat) (news : List Value) (hx : a.eval x = .slice (some ad) m c) (hl : news.length = m * size) (hnews : ∀ j u, news[j]? = some u → w.cell? (ad.add j) = some u) (h1 : ∀ u ∈ news, u.oneCell' = true)
    (h63 : n + m ≤ maxLen) (hbytes : (n + m) * bytes ≤ 140737488355328) (hbase : base ≤ w.heap.size)
    (h : ∀ v' w', w'.ownsRow base e size v' (n + m) (xs ++ news) → w.grownBy w' v.ownBlock → Past w w' v.ownBlock (n * size) → (v'.ownBlock = v.ownBlock ∨ v'.ownBlock = some w.heap.size) → wpList P ops Q rest (a.put o.dst v') w') : wpList P ops Q (o :: rest) a w :=
  wpList_plain hgd fun _ hK => wp_append_past w s x t ho base e i z size bytes ht hi hz hsize hby hzs hsz v n xs hs hown ad m c news hx hl hnews h1 h63 hbytes hbase fun v' w' h2 h3 h4 h5 => hK _ _ (h v' w' h2 h3 h4 h5)
end
/-- Rows of whole numbers (kind K, type e), each with a block of its own. -/
structure Lot (K : IntKind) (e : Nat) (w : World) (base : Nat) (vs : List Value) (xss : List (List Int)) : Prop where
  len : vs.length = xss.length
  own : ∀ (i : Nat) v xs, vs[i]? = some v → xss[i]? = some xs → w.ownsRow base e 1 v xs.length (nums K xs)
  apart : ∀ (i j : Nat) u v b, vs[i]? = some u → vs[j]? = some v → i ≠ j → u.ownBlock = some b → v.ownBlock ≠ some b
section
variable {K : IntKind} {e : Nat} {w w1 : World} {base : Nat} {vs : List Value} {xss : List (List Int)} {v : Value} {xs : List Int}
theorem Lot.nil : Lot K e w base [] [] := ⟨rfl, fun i v xs h => by simp at h, fun i j u v b h => by simp at h⟩
theorem Lot.lt (h : Lot K e w base vs xss) {i : Nat} (hv : vs[i]? = some v) {b : Nat} (hb : v.ownBlock = some b) : base ≤ b ∧ b < w.heap.size := by
  have hi : i < xss.length := by rw [← h.len]; exact (List.getElem?_eq_some_iff.1 hv).1
  have ho := h.own i v _ hv (List.getElem?_eq_getElem hi)
  exact ⟨own_base ho b hb, own_lt ho b hb⟩
theorem Lot.step (h : Lot K e w base vs xss) (hm : ∀ b : Nat, base ≤ b → b < w.heap.size → w1.heap[b]? = w.heap[b]?) : Lot K e w1 base vs xss :=
  ⟨h.len, fun i v xs hv hx => own_move (h.own i v xs hv hx) (fun k hk => hm k (h.lt hv hk).1 (h.lt hv hk).2), h.apart⟩
theorem Lot.below (h : Lot K e w base vs xss) (hb : Below w.heap.size w w1) : Lot K e w1 base vs xss := h.step (fun b _ hb' => hb.block b hb')
theorem Lot.push (h : Lot K e w base vs xss) (hb : Below w.heap.size w w1) (hbase : base ≤ w.heap.size) (ho : w1.ownsRow w.heap.size e 1 v xs.length (nums K xs)) : Lot K e w1 base (vs ++ [v]) (xss ++ [xs]) := by
  have h1 := h.below hb
  refine ⟨by simp [h.len], fun i u ys hu hy => ?_, fun i j u u' b hu hu' hne hb' => ?_⟩
  · rcases Nat.lt_or_ge i vs.length with hi | hi
    · rw [List.getElem?_append_left hi] at hu
      rw [List.getElem?_append_left (by rw [← h.len]; exact hi)] at hy
      exact h1.own i u ys hu hy
    · rw [List.getElem?_append_right hi] at hu
      rw [List.getElem?_append_right (by rw [← h.len]; exact hi), ← h.len] at hy
      have e0 : i - vs.length = 0 := by
        rcases Nat.eq_zero_or_pos (i - vs.length) with q | q
        · exact q
        · rw [List.getElem?_eq_none (by rw [List.length_singleton]; exact q)] at hu; cases hu
      rw [e0] at hu hy
      injection hu with hu
      injection hy with hy
      subst hu
      subst hy
      exact own_less ho hbase
  · have key : ∀ (i : Nat) u, (vs ++ [v])[i]? = some u → (i < vs.length ∧ vs[i]? = some u) ∨ (i = vs.length ∧ u = v) := by
      intro i u hu
      rcases Nat.lt_or_ge i vs.length with hi | hi
      · rw [List.getElem?_append_left hi] at hu
        exact .inl ⟨hi, hu⟩
      · rw [List.getElem?_append_right hi] at hu
        have e0 : i - vs.length = 0 := by
          rcases Nat.eq_zero_or_pos (i - vs.length) with q | q
          · exact q
          · rw [List.getElem?_eq_none (by rw [List.length_singleton]; exact q)] at hu; cases hu
        rw [e0] at hu
        injection hu with hu
        exact .inr ⟨by omega, hu.symm⟩
    rcases key i u hu with ⟨hi, hu1⟩ | ⟨hi, e1⟩ <;> rcases key j u' hu' with ⟨hj, hu2⟩ | ⟨hj, e2⟩
    · exact h.apart i j u u' b hu1 hu2 hne hb'
    · intro hv
      rw [e2] at hv
      have := own_base ho b hv
      have := (h.lt hu1 hb').2
      omega
    · intro hv
      rw [e1] at hb'
      have := own_base ho b hb'
      have := (h.lt hu2 hv).2
      omega
    · omega
theorem Lot.past (h : Lot K e w base vs xss) {g : Option Nat} {k : Nat} (hp : Past w w1 g k) (hk : ∀ (i : Nat) (v : Value) (xs : List Int), vs[i]? = some v → xss[i]? = some xs → v.ownBlock = g → xs.length ≤ k) : Lot K e w1 base vs xss :=
  ⟨h.len, fun i v xs hv hx => hp.kept (h.own i v xs hv hx) (fun hg => by have := hk i v xs hv hx hg; omega), h.apart⟩
theorem Lot.at (h : Lot K e w base vs xss) {i : Nat} (hi : i < xss.length) : ∃ v, vs[i]? = some v ∧ w.ownsRow base e 1 v (xss.getD i []).length (nums K (xss.getD i [])) ∧ ∃ A c, v = .slice A (xss.getD i []).length c := by
  have hi' : i < vs.length := by rw [h.len]; exact hi
  have ho := h.own i _ _ (List.getElem?_eq_getElem hi') (List.getElem?_eq_getElem hi)
  have e0 : xss.getD i [] = xss[i] := by rw [List.getD_eq_getElem?_getD, List.getElem?_eq_getElem hi]; rfl
  rw [e0]
  exact ⟨_, List.getElem?_eq_getElem hi', ho, own_slice ho⟩
/-- Element j of row i. -/
theorem Lot.cell (h : Lot K e w base vs xss) {i : Nat} {A : Option Addr} {n c : Nat} (hv : vs[i]? = some (.slice A n c)) {j : Nat} (hj : j < (xss.getD i []).length) : ∃ g, A = some ⟨g, 0, none⟩ ∧ base ≤ g ∧ g < w.heap.size ∧ w.cell? ⟨g, j, none⟩ = some (.int K ((xss.getD i []).getD j 0)) ∧ w.frozen? ⟨g, j, none⟩ = false := by
  have hi : i < xss.length := by rw [← h.len]; exact (List.getElem?_eq_some_iff.1 hv).1
  obtain ⟨v, hv2, ho, _⟩ := h.at hi
  rw [hv] at hv2
  injection hv2 with hv2
  subst hv2
  rcases ho.2 with ⟨_, h0⟩ | ⟨g, cap, cur, e1, hb, hg, _⟩
  · omega
  · injection e1 with e1 e2 e3
    subst e1
    subst e2
    subst e3
    refine ⟨g, rfl, hb, (Array.getElem?_eq_some_iff.1 hg).1, ?_, ho.frozenAt j⟩
    rw [ho.cellAt j (by omega)]
    have key : ∀ (l : List Int) (j : Nat), j < l.length → (nums K l)[j]? = some (.int K (l.getD j 0)) := fun l j h => by
      simp [nums, List.getD_eq_getElem?_getD, List.getElem?_eq_getElem h]
    exact key _ _ hj
/-- A number of a row is another one. -/
theorem Lot.set (h : Lot K e w base vs xss) {i : Nat} {g n c : Nat} (hv : vs[i]? = some (.slice (some ⟨g, 0, none⟩) n c)) {j : Nat} (hj : j < (xss.getD i []).length) (x : Int) : Lot K e (w.setCell ⟨g, j, none⟩ (.int K x)) base vs (xss.set i ((xss.getD i []).set j x)) := by
  have hi : i < xss.length := by rw [← h.len]; exact (List.getElem?_eq_some_iff.1 hv).1
  refine ⟨by simp [h.len], fun i' u ys hu hy => ?_, h.apart⟩
  have hi' : i' < xss.length := by rw [← h.len]; exact (List.getElem?_eq_some_iff.1 hu).1
  by_cases c0 : i' = i
  · subst c0
    rw [hv] at hu
    injection hu with hu
    subst hu
    rw [List.getElem?_set_self hi'] at hy
    injection hy with hy
    subst hy
    obtain ⟨v, hv2, ho, _⟩ := h.at hi'
    rw [hv] at hv2
    injection hv2 with hv2
    subst hv2
    have hn : n = (xss.getD i' []).length := by
      rcases ho.2 with ⟨e0, _⟩ | ⟨g', cap, cur, e1, _⟩
      · cases e0
      · injection e1
    subst hn
    have h2 := ho.stored j (.int K x)
    have key : ∀ (l : List Int) (j : Nat), nums K (l.set j x) = (nums K l).set j (.int K x) := fun l j => by simp [nums, List.map_set]
    rw [key, List.length_set]
    exact h2.1
  · rw [List.getElem?_set_ne (fun q => c0 q.symm)] at hy
    refine own_setCell (h.own i' u ys hu hy) (fun q => ?_) _
    exact h.apart i i' _ _ g hv hu (fun q => c0 q.symm) rfl q.symm
theorem Lot.ne (h : Lot K e w base vs xss) {i : Nat} (hv : vs[i]? = some v) {e' s' n' : Nat} {v' : Value} {ys : List Value} {b' : Nat} (ho : w.ownsRow b' e' s' v' n' ys) (hne : e ≠ e') : ∀ b, v.ownBlock = some b → v'.ownBlock ≠ some b := by
  intro b hb hb'
  have hi : i < xss.length := by rw [← h.len]; exact (List.getElem?_eq_some_iff.1 hv).1
  have h1 := h.own i v _ hv (List.getElem?_eq_getElem hi)
  rcases own_type_ne h1 ho hne with q | q
  · rw [q] at hb; cases hb
  · exact q (hb.trans hb'.symm)
end
/-- Row i as it is read. -/
theorem Lot.C {K : IntKind} {e : Nat} {w : World} {base : Nat} {vs : List Value} {xss : List (List Int)} (h : Lot K e w base vs xss) {i : Nat} {A : Option Addr} {n c : Nat} {xs : List Int} (hv : vs[i]? = some (.slice A n c)) (hx : xss[i]? = some xs) : n = xs.length ∧ xs.length ≤ c ∧ Kd.C (Kd.int K) w A xs.length xs := by
  have ho := h.own i _ _ hv hx
  have hn : n = xs.length := by
    rcases ho.2 with ⟨e0, e1⟩ | ⟨g, cap, cur, e1, _⟩
    · injection e0 with _ e2 _
      omega
    · injection e1
  subst hn
  exact ⟨rfl, own_cap ho, Kd.C_of_reads (d := (0 : Int)) (own_reads_of' (enc := Value.int K) ho)⟩
/-- Rows kept in a row: us are all rows that are looked after, vs those that the row kv has. -/
structure MM (K : IntKind) (e eo : Nat) (w W : World) (us : List Value) (xss : List (List Int)) (kv : Value) (vs : List Value) : Prop where
  lot : Lot K e W w.heap.size us xss
  row : W.ownsRow w.heap.size eo 1 kv vs.length vs
  bel : Below w.heap.size w W
section
variable {K : IntKind} {e eo : Nat} {w W W1 : World} {us vs : List Value} {xss : List (List Int)} {kv kv' v : Value} {xs : List Int}
theorem MM.start (hB : Below w.heap.size w W) (ho : W.ownsRow w.heap.size e 1 v xs.length (nums K xs)) : MM K e eo w (W.alloc (.cells #[] eo)) [v] [xs] (.slice (some ⟨W.heap.size, 0, none⟩) 0 0) [] := by
  refine ⟨⟨rfl, fun i u ys hu hy => ?_, fun i j u u' b hu hu' hne _ => ?_⟩, ?_, below_alloc hB _⟩
  · cases i with
    | zero =>
      injection hu with hu
      injection hy with hy
      subst hu
      subst hy
      exact own_alloc ho _
    | succ i => cases hu
  · cases i with
    | zero => cases j with
      | zero => exact absurd rfl hne
      | succ j => cases hu'
    | succ i => cases hu
  · exact World.ownsRow_made W #[] 0 hB.size (Nat.zero_le _) (by simp)
theorem MM.keep (h : MM K e eo w W us xss kv vs) (hB : Below W.heap.size W W1) : MM K e eo w W1 us xss kv vs :=
  ⟨h.lot.below hB, own_move h.row (fun k hk => hB.block k (own_lt h.row k hk)), h.bel.trans (hB.mono h.bel.size)⟩
theorem MM.call (h : MM K e eo w W us xss kv vs) (hB : Below W.heap.size W W1) (ho : W1.ownsRow W.heap.size e 1 v xs.length (nums K xs)) : MM K e eo w W1 (us ++ [v]) (xss ++ [xs]) kv vs :=
  ⟨h.lot.push hB h.bel.size ho, own_move h.row (fun k hk => hB.block k (own_lt h.row k hk)), h.bel.trans (hB.mono h.bel.size)⟩
/-- The row that keeps them has grown (an append to it). -/
theorem MM.app (h : MM K e eo w W us xss kv vs) (hne : e ≠ eo) {n : Nat} {ys : List Value} (hn : n = ys.length) (ho : W1.ownsRow w.heap.size eo 1 kv' n ys) (hg : W.grownBy W1 kv.ownBlock) : MM K e eo w W1 us xss kv' ys := by
  subst hn
  refine ⟨⟨h.lot.len, fun i v xs hv hx => own_other (h.lot.own i v xs hv hx) hg (own_type_ne (h.lot.own i v xs hv hx) h.row hne), h.lot.apart⟩, ho, h.bel.grown hg h.bel.size (own_base h.row)⟩
theorem MM.set (h : MM K e eo w W us xss kv vs) (hne : e ≠ eo) {i g n c : Nat} (hv : us[i]? = some (.slice (some ⟨g, 0, none⟩) n c)) {j : Nat} (hj : j < (xss.getD i []).length) (x : Int) : MM K e eo w (W.setCell ⟨g, j, none⟩ (.int K x)) us (xss.set i ((xss.getD i []).set j x)) kv vs := by
  have hb := (h.lot.lt hv (b := g) rfl).1
  refine ⟨h.lot.set hv hj x, own_setCell h.row (fun q => h.lot.ne hv h.row hne g rfl q.symm) _, h.bel.os, h.bel.tape, h.bel.output, by simpa using h.bel.size, fun k hk => ?_⟩
  rw [Below.heap_setCell W ⟨g, j, none⟩ _ k (by show k ≠ g; omega)]
  exact h.bel.block k hk
theorem MM.past (h : MM K e eo w W us xss kv vs) {g : Option Nat} {k : Nat} (hp : Past W W1 g k) (hB : Below w.heap.size w W1) (hrow : kv.ownBlock ≠ g ∨ kv.ownBlock = none) (hk : ∀ (i : Nat) (v : Value) (xs : List Int), us[i]? = some v → xss[i]? = some xs → v.ownBlock = g → xs.length ≤ k) : MM K e eo w W1 us xss kv vs := by
  refine ⟨h.lot.past hp hk, ?_, hB⟩
  refine own_move h.row (fun b hb => hp.block b (own_lt h.row b hb) (fun q => ?_))
  rcases hrow with q1 | q1
  · exact q1 (hb.trans q)
  · rw [q1] at hb; cases hb
/-- Row i of the row: its cell, and what is in it. -/
theorem MM.get (h : MM K e eo w W us xss kv vs) {i : Nat} (hi : i < vs.length) : ∃ g c, kv = .slice (some ⟨g, 0, none⟩) vs.length c ∧ vs.length ≤ c ∧ W.cell? ⟨g, i, none⟩ = vs[i]? ∧ W.frozen? ⟨g, i, none⟩ = false := by
  rcases h.row.2 with ⟨_, h0⟩ | ⟨g, cap, cur, rfl, hb, hg, hl, _⟩
  · omega
  · exact ⟨g, cap, rfl, hl, h.row.cellAt i (by omega), h.row.frozenAt i⟩
end
end Go.Proofs.Ytfegaffcalpmbaa.Mem
