/- PoolWalks: what holds between the calls. -/
import Derived.Sort.LoopGhostIn
import Derived.Test.YtmcmkdpidppcaaaPoolN
namespace Go.Proofs.Ytmcmkdpidppcaaa.St
open Go.Proofs Go.RowKit Go.Shelf Go.Proofs.YtmcmkdpidppcaaaW.PrintWords Go.Proofs.YtmcmkdpidppcaaaW.PrintLast Go.Proofs.YtmcmkdpidppcaaaW.PrintMore Go.Proofs.Ytmcmkdpidppcaaa.A Go.Proofs.Ytmcmkdpidppcaaa.Pure
theorem hasL_nat' (S : List (Bool × Int)) (k : Nat) (hk : k < S.length) : hasL S (k : Int) = (S.getD k (false, 0)).1 := by
  unfold hasL
  rw [decide_eq_true (by omega), decide_eq_true (by omega), Int.toNat_natCast]
  rfl
/-- These blocks say what they said. -/
def Hold (W0 : World) (Q : Nat → Prop) (W : World) : Prop := ∀ k, Q k → W.heap[k]? = W0.heap[k]?
theorem hold_own {β : Type} (W0 : World) (Q : Nat → Prop) (hQ : ∀ k, Q k → ∃ c t fr, W0.heap[k]? = some (.cells c t fr)) : Own (fun (_ : β) W => Hold W0 Q W) := by
  intro s X Y row hs hg hrow k hk
  obtain ⟨c, t, fr, hc⟩ := hQ k hk
  have hX : X.heap[k]? = some (.cells c t fr) := (hs k hk).trans hc
  refine (hg.block k (Array.getElem?_eq_some_iff.1 hX).1 (fun e => ?_)).trans (hs k hk)
  obtain ⟨o, ho, hcell⟩ := hrow k e.symm
  rw [hX] at ho
  cases ho
  cases hcell
theorem Hold.kept {W0 W W' : World} {Q P : Nat → Prop} (h : Hold W0 Q W) (hk : Kept W W' P) (hP : ∀ k, Q k → ¬ P k) (hQ : ∀ k, Q k → k < W.heap.size) : Hold W0 Q W' := fun k hq => (hk.2 k (hQ k hq) (hP k hq)).trans (h k hq)
theorem Duo.form {w0 W : World} {n b : Nat} {vs vf lv : Value} {L : List S66} (h : Duo w0 W n b vs vf lv L) : ∃ gl cl, lv = .slice (some ⟨gl, 0, none⟩) n cl := by
  have h1 := h.len
  have h2 := h.big
  obtain ⟨gl, cl, e, _⟩ := list_cells h.row (by omega)
  rw [toS_len, h1] at e
  exact ⟨gl, cl, e⟩
theorem cell_off {W : World} {a : Addr} {v : Value} (h : W.cell? a = some v) {B : Nat} (hne : a.block ≠ B) (u : Value) : (W.setCell ⟨B, 0, none⟩ u).cell? a = some v := by
  unfold World.cell? at h ⊢
  rw [Below.heap_setCell W ⟨B, 0, none⟩ u a.block hne]
  exact h
/-- The same, where no panic comes. -/
def noPanic (Q : Exit → Act → World → Prop) : Exit → Act → World → Prop
  | .panic _, _, _ => False
  | e, a, w => Q e a w
theorem noPanic_to {Q : Exit → Act → World → Prop} (e : Exit) (a : Act) (w : World) (h : noPanic Q e a w) : Q e a w := by
  cases e <;> first | exact h | exact h.elim
/-- The pool is in order. -/
def Live (n0 n b : Nat) (vs vf : Value) (W : World) : Prop := ∃ (vf' : Value) (S : List (Bool × Int)) (F : List Int), PoolAt n0 W b vs vf' S F ∧ Roomy vf' n F.length ∧ FreeOf S F ∧ S.length = n ∧ vf'.ownBlock = vf.ownBlock
section
variable {n0 n b : Nat} {vs vf : Value} {W W' : World}
theorem Live.kept {P : Nat → Prop} (h : Live n0 n b vs vf W) (hk : Kept W W' P) (hP : ∀ k, Foot b vs vf k → ¬ P k) : Live n0 n b vs vf W' := by
  obtain ⟨vf', S, F, hp, hr, hf, hl, ho⟩ := h
  exact ⟨vf', S, F, hp.keptS hk (fun k hk => hP k ((foot_same ho k).1 hk)), hr, hf, hl, ho⟩
theorem Live.foot (h : Live n0 n b vs vf W) (k : Nat) (hk : Foot b vs vf k) : n0 ≤ k ∧ k < W.heap.size ∧ ∃ c t, W.heap[k]? = some (.cells c t (0, 0)) := by
  obtain ⟨vf', S, F, hp, hr, hf, hl, ho⟩ := h
  have hk := (foot_same ho k).2 hk
  refine ⟨(hp.foot k hk).1, (hp.foot k hk).2, ?_⟩
  rcases hk with rfl | hk | hk
  · exact ⟨_, _, hp.blk⟩
  · obtain ⟨c, hc⟩ := own_typed hp.slots k hk
    exact ⟨_, _, hc⟩
  · obtain ⟨c, hc⟩ := own_typed hp.free k hk
    exact ⟨_, _, hc⟩
theorem live_own {β : Type} : Own (fun (_ : β) W => Live n0 n b vs vf W) := by
  intro s X Y row hs hg hrow
  refine hs.kept (P := fun k => row = some k) ⟨hg.size, fun i hi hn => hg.block i hi (fun e => hn e.symm)⟩ (fun k hk e => ?_)
  obtain ⟨o, ho, hcell⟩ := hrow k e
  obtain ⟨_, _, c, t, hc⟩ := hs.foot k hk
  rw [hc] at ho
  cases ho
  cases hcell
theorem live_give (h : Live n0 n b vs vf W) (hn : n ≤ 65536) (i : Int) : Calls Try.prog 19 #[.pointer (some ⟨b, 0, none⟩), .int .i64 i] W fun e w' => ∃ x y, e = .returned (.tuple #[.int .i64 x, .int .i64 y]) ∧ Live n0 n b vs vf w' ∧ Kept W w' (Foot b vs vf) ∧ Below n0 W w' := by
  obtain ⟨vf', S, F, hp, hr, hf, hl, ho⟩ := h
  by_cases c : hasL S i = true
  · obtain ⟨c0, c1, c2⟩ := hasL_in c
    obtain ⟨k, rfl⟩ : ∃ k : Nat, i = (k : Int) := ⟨i.toNat, by omega⟩
    rw [Int.toNat_natCast] at c2
    have hcnt := hf.count
    have hFl : F.length < S.length := by
      have hp0 : 0 < (takenTo S S.length).length := List.length_pos_of_mem (a := ((k : Int), (S.getD k (false, 0)).2)) (List.mem_map.2 ⟨k, List.mem_filter.2 ⟨List.mem_range.2 (by omega), c2⟩, rfl⟩)
      omega
    refine (give_yes hp (by rw [hl]; exact hr) k (by omega) c2 (by omega) hFl (fun j hj => by have := hf.range j hj; omega) hf.falls).mono ?_
    rintro e w2 ⟨vf2, p, rfl, hp2, hlo, hhi, hP2, hRo, hB2, hK2, hown⟩
    have e : (F.take p ++ (k : Int) :: F.drop p).length = F.length + 1 := by rw [List.length_append, List.length_cons, List.length_take, List.length_drop]; omega
    rw [hl] at hRo
    exact ⟨_, _, rfl, ⟨vf2, _, _, hP2, by rw [e]; exact hRo, hf.give (by omega) c2 hp2 hlo hhi, by rw [List.length_set]; exact hl, hown.trans ho⟩, hK2.mono (fun k hk => (foot_same ho k).1 hk), hB2⟩
  · refine (give_no hp i (by simpa using c)).mono ?_
    rintro e w2 ⟨rfl, h2⟩
    have h3 := h2.symm
    subst h3
    exact ⟨_, _, rfl, ⟨vf', S, F, hp, hr, hf, hl, ho⟩, Kept.refl _ _, Below.refl _ _⟩
theorem live_take (h : Live n0 n b vs vf W) (hn : n ≤ 65536) (v : Int) : Calls Try.prog 18 #[.pointer (some ⟨b, 0, none⟩), .int .i64 v] W fun e w' => ∃ x y, e = .returned (.tuple #[.int .i64 x, .int .i64 y]) ∧ Live n0 n b vs vf w' ∧ Kept W w' (Foot b vs vf) ∧ Below n0 W w' := by
  obtain ⟨vf', S, F, hp, hr, hf, hl, ho⟩ := h
  rcases list_last F with rfl | ⟨F', fi, rfl⟩
  · refine (take_none hp v).mono ?_
    rintro e w2 ⟨rfl, h2⟩
    have h3 := h2.symm
    subst h3
    exact ⟨_, _, rfl, ⟨vf', S, [], hp, hr, hf, hl, ho⟩, Kept.refl _ _, Below.refl _ _⟩
  · obtain ⟨m, rfl, hm1, hm2, hm3, hm4⟩ := hf.take (v := v)
    have hcnt := hf.count
    rw [List.length_append, List.length_singleton] at hr hcnt
    refine (take_calls hp hm1 (by omega) v).mono ?_
    rintro e w2 ⟨vf2, rfl, hP2, hB2, hRo, hK2, hown⟩
    rw [hl] at hRo
    exact ⟨_, _, rfl, ⟨vf2, _, _, hP2, hRo hr, hm4, by rw [List.length_set]; exact hl, hown.trans ho⟩, hK2.mono (fun k hk => (foot_same ho k).1 hk), hB2⟩
theorem live_set (h : Live n0 n b vs vf W) (i v : Int) : Calls Try.prog 27 #[.pointer (some ⟨b, 0, none⟩), .int .i64 i, .int .i64 v] W fun e w' => ∃ x, e = .returned (.int .i64 x) ∧ Live n0 n b vs vf w' ∧ Kept W w' (Foot b vs vf) ∧ Below n0 W w' := by
  obtain ⟨vf', S, F, hp, hr, hf, hl, ho⟩ := h
  by_cases c : hasL S i = true
  · obtain ⟨c0, c1, c2⟩ := hasL_in c
    obtain ⟨k, rfl⟩ : ∃ k : Nat, i = (k : Int) := ⟨i.toNat, by omega⟩
    rw [Int.toNat_natCast] at c2
    refine (set_yes hp k v (by omega) c2).mono ?_
    rintro e w2 ⟨rfl, hP2, hB2, hK2⟩
    exact ⟨_, rfl, ⟨vf', _, _, hP2, hr, hf.setTaken (by omega) c2, by rw [List.length_set]; exact hl, ho⟩, hK2.mono (fun k hk => (foot_same ho k).1 hk), hB2⟩
  · refine (set_no hp i v (by simpa using c)).mono ?_
    rintro e w2 ⟨rfl, h2⟩
    have h3 := h2.symm
    subst h3
    exact ⟨_, rfl, ⟨vf', S, F, hp, hr, hf, hl, ho⟩, Kept.refl _ _, Below.refl _ _⟩
end
theorem meas {n i k : Nat} (h1 : n < i + k) (h2 : i < n) : n - i < k := by omega
theorem meas2 {n i : Nat} (h2 : i < n) : n < i + 1 + (n - i) := by omega
theorem taken_good {S : List (Bool × Int)} {k : Nat} (hk : k ≤ S.length) {y : Int × Int} (h : y ∈ takenTo S k) : hasL S y.1 = true ∧ y.2 = (S.getD y.1.toNat (false, 0)).2 := by
  unfold takenTo at h
  obtain ⟨j, hj, rfl⟩ := List.mem_map.1 h
  obtain ⟨h1, h2⟩ := List.mem_filter.1 hj
  have hlt := List.mem_range.1 h1
  refine ⟨by rw [hasL_nat' S j (by omega)]; exact h2, ?_⟩
  show (S.getD j (false, 0)).2 = (S.getD ((j : Int)).toNat (false, 0)).2
  rw [Int.toNat_natCast]
theorem _root_.Go.KeepsOthers.drewN (W : World) (q : Nat) : KeepsOthers W (W.drewN q) := ⟨Nat.le_refl _, fun _ _ h _ => h⟩
theorem keepsFrom_of_kept {A B : World} {P : Nat → Prop} {c : Nat} (hk : Kept A B P) (hP : ∀ k, P k → k < c) : KeepsFrom c A B :=
  ⟨hk.1, fun k o hc ho _ => (hk.2 k (Array.getElem?_eq_some_iff.1 ho).1 (fun h => by have := hP k h; omega)).trans ho⟩
/-- What each loop keeps. -/
def Inv (w V0 : World) (Q : Nat → Prop) (n b : Nat) (vs vf : Value) (W : World) : Prop := Hold V0 Q W ∧ Live w.heap.size n b vs vf W ∧ Below w.heap.size w W
section
variable {w V0 W W' : World} {Q : Nat → Prop} {n b : Nat} {vs vf : Value}
theorem inv_own {β : Type} {B : Nat} (hQ : ∀ k, Q k → ∃ c t fr, V0.heap[k]? = some (.cells c t fr)) (hB : w.heap.size ≤ B) : OwnFrom B (fun (_ : β) W => Inv w V0 Q n b vs vf W) :=
  OwnFrom.and (Own.from (hold_own V0 Q hQ) _) (OwnFrom.and (Own.from live_own _) (ownFrom_below (Nat.le_refl _) hB))
theorem Inv.put (h : Inv w V0 Q n b vs vf W) {B : Nat} (hB : w.heap.size ≤ B) (hQ : ¬ Q B) (hF : ¬ Foot b vs vf B) (u : Value) : Inv w V0 Q n b vs vf (W.setCell ⟨B, 0, none⟩ u) :=
  ⟨fun k hk => (Below.heap_setCell W ⟨B, 0, none⟩ u k (fun e => hQ (by have e : k = B := e; rw [← e]; exact hk))).trans (h.1 k hk), h.2.1.kept (P := fun k => k = B) ⟨by simp, fun k _ hn => Below.heap_setCell W ⟨B, 0, none⟩ u k hn⟩ (fun k hk e => hF (by have e : k = B := e; rw [← e]; exact hk)), h.2.2.setCell (p := ⟨B, 0, none⟩) hB u⟩
theorem Inv.get (h : Inv w V0 Q n b vs vf W) {k : Nat} (hq : Q k) {t : TypeId} {v : Value} (hb : Boxed V0 k t v) : Boxed W k t v := (h.1 k hq).trans hb
theorem Inv.call (h : Inv w V0 Q n b vs vf W) (hL : Live w.heap.size n b vs vf W') (hK : Kept W W' (Foot b vs vf)) (hB : Below w.heap.size W W') (hQf : ∀ k, Foot b vs vf k → ¬ Q k) (hQ : ∀ k, Q k → ∃ c t fr, V0.heap[k]? = some (.cells c t fr)) : Inv w V0 Q n b vs vf W' :=
  ⟨h.1.kept hK (fun k hq hf => hQf k hf hq) (fun k hq => by obtain ⟨c, t, fr, hc⟩ := hQ k hq; exact (Array.getElem?_eq_some_iff.1 ((h.1 k hq).trans hc)).1), hL, h.2.2.trans hB⟩
theorem Inv.below (h : Inv w V0 Q n b vs vf W) (hB : Below W.heap.size W W') (hQ : ∀ k, Q k → ∃ c t fr, V0.heap[k]? = some (.cells c t fr)) : Inv w V0 Q n b vs vf W' :=
  ⟨h.1.kept (Kept.of_below hB (fun _ => False)) (fun _ _ h => h) (fun k hq => by obtain ⟨c, t, fr, hc⟩ := hQ k hq; exact (Array.getElem?_eq_some_iff.1 ((h.1 k hq).trans hc)).1), h.2.1.kept (Kept.of_below hB (fun _ => False)) (fun _ _ h => h), h.2.2.trans (hB.mono h.2.2.size)⟩
theorem Inv.kq (h : Inv w V0 Q n b vs vf W) (h' : Inv w V0 Q n b vs vf W') (hB : Below w.heap.size W W') {b1 b2 : Nat} (q1 : Q b1) (q2 : Q b2) : Kq2 w.heap.size b1 b2 W W' :=
  ⟨hB, fun k c t hk hc => by
    have hq : Q k := by rcases hk with rfl | rfl <;> assumption
    exact (h'.1 k hq).trans ((h.1 k hq).symm.trans hc)⟩
end
/-- What a round keeps, from its start W2 on. -/
def Mid (w V0 : World) (Q : Nat → Prop) (n b : Nat) (vs vf : Value) (oB : Nat) (ov : Value) (D : Nat) (W2 : World) (c : Nat) (W : World) : Prop :=
  Inv w V0 Q n b vs vf W ∧ Boxed W oB 3 ov ∧ W.heap[D]? = some (.deferred (some [])) ∧ Below w.heap.size W2 W ∧ KeepsFrom c W2 W
section
variable {w V0 W W' W2 : World} {Q : Nat → Prop} {n b : Nat} {vs vf ov : Value} {oB D c : Nat}
theorem Mid.call (h : Mid w V0 Q n b vs vf oB ov D W2 c W) (hL : Live w.heap.size n b vs vf W') (hK : Kept W W' (Foot b vs vf)) (hB : Below w.heap.size W W') (hQf : ∀ k, Foot b vs vf k → ¬ Q k) (hQ : ∀ k, Q k → ∃ c t fr, V0.heap[k]? = some (.cells c t fr)) (hO : ¬ Foot b vs vf oB) (hD : ¬ Foot b vs vf D) (hc : ∀ k, Foot b vs vf k → k < c) : Mid w V0 Q n b vs vf oB ov D W2 c W' :=
  ⟨h.1.call hL hK hB hQf hQ, (hK.2 oB h.2.1.lt hO).trans h.2.1, (hK.2 D (Array.getElem?_eq_some_iff.1 h.2.2.1).1 hD).trans h.2.2.1, h.2.2.2.1.trans hB, h.2.2.2.2.trans (keepsFrom_of_kept hK hc)⟩
theorem Mid.below (h : Mid w V0 Q n b vs vf oB ov D W2 c W) (hB : Below W.heap.size W W') (hQ : ∀ k, Q k → ∃ c t fr, V0.heap[k]? = some (.cells c t fr)) : Mid w V0 Q n b vs vf oB ov D W2 c W' :=
  ⟨h.1.below hB hQ, (hB.block oB h.2.1.lt).trans h.2.1, (hB.block D (Array.getElem?_eq_some_iff.1 h.2.2.1).1).trans h.2.2.1, h.2.2.2.1.trans (hB.mono h.1.2.2.size), h.2.2.2.2.trans ⟨hB.size, fun k _ _ ho _ => (hB.block k (Array.getElem?_eq_some_iff.1 ho).1).trans ho⟩⟩
end
end Go.Proofs.Ytmcmkdpidppcaaa.St
