/- Rows that are kept beside one another: marked, grown and looked at. -/
import Derived.Test.YtfegaffcalpmbaaMem
namespace Go.Proofs.Ytfegaffcalpmbaa.Mem
set_option linter.unusedVariables false
open Go Go.Proofs Go.RowKit Go.Proofs.YtfegaffcalpmbaaW.PrintWords
/-- The rows ahead of row i hold marks. -/
def mk (f : Nat → Int) (i : Nat) (L : List (List Int)) : List (List Int) := L.mapIdx fun k xs => if k < i then List.replicate xs.length (f k) else xs
/-- .. and row i's first j numbers. -/
def mkj (f : Nat → Int) (i j : Nat) (L : List (List Int)) : List (List Int) := (mk f i L).set i (List.replicate j (f i) ++ (L.getD i []).drop j)
section
variable {f : Nat → Int} {i j : Nat} {L : List (List Int)}
theorem mk_length : (mk f i L).length = L.length := by simp [mk]
theorem mkj_length : (mkj f i j L).length = L.length := by simp [mkj, mk_length]
theorem mk_get (k : Nat) : (mk f i L)[k]? = L[k]?.map fun xs => if k < i then List.replicate xs.length (f k) else xs := by
  unfold mk
  rw [List.getElem?_mapIdx]
theorem mk_zero : mk f 0 L = L := by
  apply List.ext_getElem?
  intro k
  rw [mk_get]
  simp
theorem mkj_zero (hi : i < L.length) : mkj f i 0 L = mk f i L := by
  apply List.ext_getElem?
  intro k
  unfold mkj
  by_cases c : i = k
  · subst c
    rw [List.getElem?_set_self (by rw [mk_length]; exact hi), mk_get, List.getD_eq_getElem?_getD, List.getElem?_eq_getElem hi]
    simp
  · rw [List.getElem?_set_ne c]
theorem mkj_full (hi : i < L.length) : mkj f i (L.getD i []).length L = mk f (i + 1) L := by
  apply List.ext_getElem?
  intro k
  unfold mkj
  by_cases c : i = k
  · subst c
    rw [List.getElem?_set_self (by rw [mk_length]; exact hi), mk_get, List.getD_eq_getElem?_getD, List.getElem?_eq_getElem hi]
    simp
  · rw [List.getElem?_set_ne c, mk_get, mk_get]
    by_cases c1 : k < i
    · simp only [if_pos c1, if_pos (show k < i + 1 by omega)]
    · simp only [if_neg c1, if_neg (show ¬ k < i + 1 by omega)]
theorem mkj_at (hi : i < L.length) : (mkj f i j L).getD i [] = List.replicate j (f i) ++ (L.getD i []).drop j := by
  unfold mkj
  rw [List.getD_eq_getElem?_getD, List.getElem?_set_self (by rw [mk_length]; exact hi)]
  rfl
theorem mkj_len (hi : i < L.length) (hj : j ≤ (L.getD i []).length) : ((mkj f i j L).getD i []).length = (L.getD i []).length := by
  rw [mkj_at hi, List.length_append, List.length_replicate, List.length_drop]
  omega
theorem mkj_set (hi : i < L.length) (hj : j < (L.getD i []).length) : (mkj f i j L).set i (((mkj f i j L).getD i []).set j (f i)) = mkj f i (j + 1) L := by
  rw [mkj_at hi]
  unfold mkj
  rw [List.set_set]
  congr 1
  rw [List.set_append_right _ _ (by rw [List.length_replicate]; exact Nat.le_refl _), List.length_replicate, Nat.sub_self, List.replicate_succ', List.append_assoc]
  congr 1
  rw [List.drop_eq_getElem_cons hj]
  rfl
theorem mk_at (k : Nat) (hk : k < L.length) (hki : k < i) : (mk f i L).getD k [] = List.replicate (L.getD k []).length (f k) := by
  rw [List.getD_eq_getElem?_getD, mk_get, List.getD_eq_getElem?_getD, List.getElem?_eq_getElem hk]
  simp [hki]
theorem mk_at_len (k : Nat) (hk : k < L.length) : ((mk f i L).getD k []).length = (L.getD k []).length := by
  rw [List.getD_eq_getElem?_getD, mk_get, List.getD_eq_getElem?_getD, List.getElem?_eq_getElem hk]
  by_cases c : k < i
  · simp [c]
  · simp [c]
end
section
variable {K : IntKind} {e eo : Nat} {w W W1 : World} {u0 : Value} {us vs : List Value} {X0 : List Int} {X xss : List (List Int)} {kv kv' v gv : Value} {xs ys : List Int}
/-- Row i of those that kv has. -/
theorem MM.at (h : MM K e eo w W (u0 :: vs) (X0 :: X) kv vs) {i : Nat} (hi : i < X.length) : ∃ gk ck A c, kv = .slice (some ⟨gk, 0, none⟩) vs.length ck ∧ vs.length ≤ ck ∧ i < vs.length ∧ vs[i]? = some (.slice A (X.getD i []).length c) ∧ (X.getD i []).length ≤ c ∧ W.cell? ⟨gk, i, none⟩ = some (.slice A (X.getD i []).length c) ∧ W.frozen? ⟨gk, i, none⟩ = false := by
  have hl : vs.length = X.length := by have := h.lot.len; simpa using this
  obtain ⟨gk, ck, hk, hle, hc, hf⟩ := h.get (i := i) (by omega)
  obtain ⟨v, hv, ho, A, c, he⟩ := h.lot.at (i := i + 1) (by simpa using hi)
  have hv' : vs[i]? = some v := hv
  subst he
  exact ⟨gk, ck, A, c, hk, hle, by omega, hv', own_cap ho, hc.trans hv', hf⟩
/-- A number of it. -/
theorem MM.num (h : MM K e eo w W (u0 :: vs) (X0 :: X) kv vs) {i : Nat} {A : Option Addr} {n c : Nat} (hv : vs[i]? = some (.slice A n c)) {j : Nat} (hj : j < (X.getD i []).length) : ∃ g, A = some ⟨g, 0, none⟩ ∧ w.heap.size ≤ g ∧ g < W.heap.size ∧ W.cell? ⟨g, j, none⟩ = some (.int K ((X.getD i []).getD j 0)) ∧ W.frozen? ⟨g, j, none⟩ = false :=
  h.lot.cell (i := i + 1) hv hj
/-- A mark more. -/
theorem MM.mark {f : Nat → Int} {i j : Nat} {L : List (List Int)} (h : MM K e eo w W (u0 :: vs) (X0 :: mkj f i j L) kv vs) (hne : e ≠ eo) (hi : i < L.length) (hj : j < (L.getD i []).length) {g n c : Nat} (hv : vs[i]? = some (.slice (some ⟨g, 0, none⟩) n c)) {x : Int} (hx : x = f i) : MM K e eo w (W.setCell ⟨g, j, none⟩ (.int K x)) (u0 :: vs) (X0 :: mkj f i (j + 1) L) kv vs := by
  subst hx
  have h2 := h.set hne (i := i + 1) hv (j := j) (show j < ((mkj f i j L).getD i []).length by rw [mkj_len hi (Nat.le_of_lt hj)]; exact hj) (f i)
  have e2 : (X0 :: mkj f i j L).set (i + 1) (((X0 :: mkj f i j L).getD (i + 1) []).set j (f i)) = X0 :: mkj f i (j + 1) L := by
    rw [← mkj_set hi hj]
    rfl
  rw [e2] at h2
  exact h2
/-- Beside the rows, one that is grown: it may lie in one of them, behind what that one has. -/
structure GG (K : IntKind) (e eo : Nat) (w W : World) (us : List Value) (xss : List (List Int)) (kv : Value) (vs : List Value) (gv : Value) (ys : List Int) : Prop where
  mm : MM K e eo w W us xss kv vs
  own : W.ownsRow w.heap.size e 1 gv ys.length (nums K ys)
  free : ∀ (i : Nat) (v : Value) (xs : List Int), us[i]? = some v → xss[i]? = some xs → v.ownBlock = gv.ownBlock → xs.length ≤ ys.length
theorem GG.start (h : MM K e eo w W us xss kv vs) {i : Nat} (hv : us[i]? = some v) (hx : xss[i]? = some xs) : GG K e eo w W us xss kv vs v xs := by
  refine ⟨h, h.lot.own i v xs hv hx, fun j u zs hu hz hb => ?_⟩
  by_cases c : j = i
  · subst c
    rw [hx] at hz
    injection hz with hz
    subst hz
    exact Nat.le_refl _
  · cases hq : v.ownBlock with
    | none =>
      rw [hq] at hb
      rcases (h.lot.own j u zs hu hz).2 with ⟨_, e0⟩ | ⟨g, cap, cur, rfl, _⟩
      · omega
      · cases hb
    | some b => exact absurd (hb.trans hq) (h.lot.apart i j v u b hv hu (fun q => c q.symm) hq)
theorem GG.alloc (h : GG K e eo w W us xss kv vs gv ys) (o : Obj) : GG K e eo w (W.alloc o) us xss kv vs gv ys := ⟨h.mm.keep (below_alloc (Below.refl _ W) o), own_alloc h.own o, h.free⟩
theorem GG.app (h : GG K e eo w W us xss kv vs gv ys) (hne : e ≠ eo) {gv' : Value} {x : Int} (ho : W1.ownsRow w.heap.size e 1 gv' (ys.length + 1) (nums K ys ++ [.int K x])) (hg : W.grownBy W1 gv.ownBlock) (hp : Past W W1 gv.ownBlock (ys.length * 1)) (hat : gv'.ownBlock = gv.ownBlock ∨ gv'.ownBlock = some W.heap.size) : GG K e eo w W1 us xss kv vs gv' (ys ++ [x]) := by
  have hb : Below w.heap.size w W1 := h.mm.bel.grown hg h.mm.bel.size (own_base h.own)
  refine ⟨h.mm.past hp hb ?_ (fun i v xs hv hx hq => by have := h.free i v xs hv hx hq; omega), ?_, fun i v xs hv hx hq => ?_⟩
  · by_cases c : kv.ownBlock = none
    · exact .inr c
    · rcases own_type_ne h.own h.mm.row hne with q | q
      · exact .inl (by rw [q]; exact c)
      · exact .inl (fun z => q z.symm)
  · rw [List.length_append, List.length_singleton, show nums K (ys ++ [x]) = nums K ys ++ [.int K x] by simp [nums]]
    exact ho
  · rw [List.length_append]
    rcases hat with q | q
    · have := h.free i v xs hv hx (hq.trans q)
      omega
    · have := (h.mm.lot.lt hv (hq.trans q)).2
      omega
end
section
variable {P : Program} {ops : Array Oper} {rest : List Oper} {o : Oper} {a : Act} {Q : Exit → Act → World → Prop}
/-- g = append(g, x), behind 'at_builtin': the goal's world has the box of the variadic. -/
theorem wpList_append_kept {K : IntKind} {e eo : Nat} {w W : World} {us vs : List Value} {xss : List (List Int)} {kv gv : Value} {ys : List Int} (h : GG K e eo w W us xss kv vs gv ys) (hne : e ≠ eo) (hgd : o.guard = none) (s z : Operand) (t : TypeId) (bytes : Nat)
    (ho : o.op = .call { callee := .builtin .append, args := #[s, z], argTypes := #[t, t] })
    (ht : P.underlying t = some (.slice e)) (hinfo : (P.info? e).map (fun i => (i.zero, i.size, i.bytes)) = some (some (.int K 0), 1, bytes)) (hb0 : 0 < bytes)
    (x : Int) (hs : a.eval s = gv) (hx : a.eval z = .slice (some ⟨W.heap.size, 0, none⟩) 1 1) (hl : (ys.length + 1) * bytes ≤ 140737488355328)
    (hc : ∀ gv' W1, GG K e eo w W1 us xss kv vs gv' (ys ++ [x]) → wpList P ops Q rest (a.put o.dst gv') W1) :
    wpList P ops Q (o :: rest) a (W.alloc (.cells #[.int K x] e)) := by
  obtain ⟨i0, hi, hzz⟩ := Option.map_eq_some_iff.1 hinfo
  simp only [Prod.mk.injEq] at hzz
  obtain ⟨hz0, hz1, hz2⟩ := hzz
  have hlen : ys.length + 1 ≤ 140737488355328 := Nat.le_trans (Nat.le_mul_of_pos_right _ hb0) hl
  have h2 := h.alloc (.cells #[.int K x] e)
  refine wpList_append_past (W.alloc (.cells #[.int K x] e)) hgd s z t ho w.heap.size e i0 (.int K 0) 1 bytes ht hi hz0 hz1 hz2 rfl (by omega) gv ys.length (nums K ys) hs h2.own ⟨W.heap.size, 0, none⟩ 1 1 [.int K x] hx rfl ?_ (fun u hu => by rw [List.mem_singleton.1 hu]; rfl) (by simp only [maxLen]; omega) hl h2.mm.bel.size ?_
  · exact World.news_of_block (cs := #[.int K x]) (t := e) (fr := (0, 0)) (heap_alloc_new W (.cells #[.int K x] e))
  · intro gv' W1 hown hg hp hat
    exact hc gv' W1 (h2.app hne hown hg hp hat)
end
end Go.Proofs.Ytfegaffcalpmbaa.Mem
