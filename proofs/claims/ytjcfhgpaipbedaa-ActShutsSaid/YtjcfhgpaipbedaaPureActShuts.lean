/- ActShuts: where the bend is 0 nothing goes through; places know nothing of one another; a middle whose gate is shut answers 0. -/
import Derived.Test.YtjcfhgpaipbedaaStmtActShuts
import Derived.Test.YtjcfhgpaipbedaaAct2
namespace Go.Proofs.Ytjcfhgpaipbedaa.Pure
set_option linter.unusedVariables false
open Go.RowKit Go.Proofs.YtjcfhgpaipbedaaW.PrintWords Go.Proofs.YtjcfhgpaipbedaaW.PrintLast Go.Proofs.YtjcfhgpaipbedaaW.PrintMore Go.Proofs.Ytjcfhgpaipbedaa.A Go.Proofs.Ytjcfhgpaipbedaa.St
theorem copiedS (a b c : List Int) (d e f : Int) (ha : a.length < 140737488355328) (hb : b.length < 140737488355328) (hc : c.length < 140737488355328) : w12_copied.f a b c d e f = some (a, b, c, d, e, f) := by
  unfold w12_copied.f
  simp only [Option.bind_some, List.nil_append, List.length_nil]
  rw [if_pos (by omega), if_pos (by omega), if_pos (by omega)]
theorem plainlyS (a b c : List Int) (d e f : Int) (ha : a.length < 140737488355328) (hb : b.length < 140737488355328) (hc : c.length < 140737488355328) : w12_plain.f a b c d e f = some (a, b, c, d, e, f) := by
  unfold w12_plain.f
  simp only [Option.bind_some, List.nil_append, List.length_nil]
  rw [if_pos (by omega), if_pos (by omega), if_pos (by omega)]
theorem near0 (d : Int) (h : 1 ≤ d) (h2 : d < 9223372036854775808) : nearL 0 d = 0 := by
  unfold nearL fixed_Near.f fixed_Floor.f
  rw [if_neg (by omega), if_neg (by omega)]
  have e1 : Int.tmod 0 d = 0 := Int.zero_tmod d
  have e2 : Int.tdiv 0 d = 0 := Int.zero_tdiv d
  have e3 : wrap64 (0 : Int) = 0 := w64 (by decide) (by decide)
  have e4 : wrap64 (d - 0) = d := by rw [Int.sub_zero, w64 (by omega) (by omega)]
  rw [e1, e2, if_neg (by decide), e3]
  simp only [Option.bind_some, if_true]
  rw [e4, if_neg (by omega), if_neg (by omega)]
  rfl
theorem round0 (s : Nat) (hs : s ≤ 62) : roundL 0 s = 0 := by
  unfold roundL
  have h1 := pow31 s hs
  have h2 := Nat.two_pow_pos s
  exact near0 _ (by omega) (by omega)
theorem fG0 (g u : Int) : fG (List.replicate 256 0) g u = 0 := by
  unfold fG
  have e : (List.replicate 256 (0 : Int)).getD (g % 256).toNat 0 = 0 := by
    have : (g % 256).toNat < 256 := by omega
    rw [List.getD_eq_getElem?_getD, List.getElem?_replicate, if_pos this]
    rfl
  have e3 : wrap64 (0 : Int) = 0 := w64 (by decide) (by decide)
  rw [e, e3, Int.zero_mul, e3, round0 6 (by decide)]
  decide
theorem zip0 (g u : List Int) : ∀ x ∈ List.zipWith (fG (List.replicate 256 0)) g u, x = 0 := by
  intro x hx
  obtain ⟨i, hi, rfl⟩ := List.getElem_of_mem hx
  rw [List.getElem_zipWith]
  exact fG0 _ _
theorem gate0 (g u : List Int) : ∀ x ∈ (gateL (List.replicate 256 0) g u).1, x = 0 := by
  intro x hx
  unfold gateL at hx
  split at hx
  · exact (List.not_mem_nil hx).elim
  split at hx
  · exact (List.not_mem_nil hx).elim
  split at hx
  · exact (List.not_mem_nil hx).elim
  · exact zip0 g u x hx
theorem dot0 : ∀ (q y : List Int), (∀ x ∈ y, x = 0) → dotA 0 q y = 0
  | [], _, _ => by rw [dotA]; intro _ _ _ _ h; cases h
  | _ :: _, [], _ => by rw [dotA]; intro _ _ _ _ _ h; cases h
  | x :: q, y :: k, h => by
    have e : y = 0 := h y List.mem_cons_self
    have e3 : wrap64 (0 : Int) = 0 := w64 (by decide) (by decide)
    rw [dotA, e, e3, Int.mul_zero, e3, Int.zero_add, e3]
    exact dot0 q k fun z hz => h z (List.mem_cons_of_mem _ hz)
theorem times0 (w : List Int) (c : Int) (y : List Int) (h : ∀ x ∈ y, x = 0) : ∀ x ∈ (timesL w c y).1, x = 0 := by
  intro x hx
  unfold timesL at hx
  split at hx
  · split at hx
    · obtain ⟨j, _, rfl⟩ := List.mem_map.1 hx
      exact dot0 _ _ h
    · exact (List.not_mem_nil hx).elim
  · exact (List.not_mem_nil hx).elim
theorem scale0 (l : List Int) (s : Int) (h : ∀ x ∈ l, x = 0) : ∀ x ∈ (scaleL l s).1, x = 0 := by
  intro x hx
  unfold scaleL at hx
  split at hx
  · exact (List.not_mem_nil hx).elim
  split at hx
  · exact (List.not_mem_nil hx).elim
  · obtain ⟨y, hy, rfl⟩ := List.mem_map.1 hx
    rw [h y hy]
    exact round0 _ (by omega)
theorem middle0 (g u d : List Int) (gs us ds : Int) (h : List Int) : ∀ x ∈ (middleL g u d gs us ds (List.replicate 256 0) h).1, x = 0 := by
  intro x hx
  unfold middleL at hx
  split at hx
  · exact (List.not_mem_nil hx).elim
  split at hx
  · exact (List.not_mem_nil hx).elim
  split at hx
  · exact (List.not_mem_nil hx).elim
  split at hx
  · exact (List.not_mem_nil hx).elim
  · exact scale0 _ _ (times0 _ _ _ (gate0 _ _)) x hx
theorem zeros_l (l : List Int) (hl : l.length ≤ 1048576) (h : ∀ x ∈ l, x = 0) : ∀ (d i : Nat), l.length - i = d → i ≤ l.length → Ev (fun k => w12_ActShuts.l1 k l (l.length : Int) (i : Int)) true
  | d, i, hd, hi => by
    refine Ev.step (fun k => by rw [w12_ActShuts.l1]) ?_
    by_cases c : i < l.length
    · obtain ⟨d, rfl⟩ : ∃ e, d = e + 1 := ⟨d - 1, by omega⟩
      rw [rd_nat, h _ (getD_mem l i c), w1 i (by omega)]
      exact ev_pos (by omega) (ev_pos (by omega) (ev_pos (by omega) (ev_pos rfl (zeros_l l hl h d (i + 1) (by omega) (by omega)))))
    · exact ev_neg (by omega) (Ev.now _)
theorem one_cut (l : List Int) (i : Nat) (h : i < l.length) : (l.take (i + 1)).drop i = [l.getD i 0] := by
  rw [List.take_succ_eq_append_getElem h, List.drop_append_of_le_length (by rw [List.length_take]; omega), List.drop_of_length_le (by rw [List.length_take]; omega), List.nil_append, getE l i h]
theorem gate_one (bend : List Int) (g u : Int) (hb : bend.length = 256) : gateL bend [g] [u] = ([fG bend g u], 0) := by
  unfold gateL
  rw [if_neg (by omega), if_neg (by simp), if_neg (by simp)]
  rfl
theorem zip_getD (f : Int → Int → Int) (a b : List Int) (i : Nat) (h1 : i < a.length) (h2 : i < b.length) : (List.zipWith f a b).getD i 0 = f (a.getD i 0) (b.getD i 0) := by
  have h : i < (List.zipWith f a b).length := by rw [List.length_zipWith]; omega
  rw [getE _ i h, List.getElem_zipWith, getE a i h1, getE b i h2]
theorem each_l (g u x7 L soft all : List Int) (Y0 Y1 Y2 : List Int) (Y3 Y4 Y5 : Int) (R : Bool) (hs : soft.length = 256) (hg : g.length ≤ 1048576) (hl : g.length = u.length) (hL : L = List.zipWith (fG (List.replicate 256 0)) g u) (hall : all = List.zipWith (fG soft) g u)
    (hk : Ev (fun k => (w12_copied.f Y0 Y1 Y2 Y3 Y4 Y5).bind fun bt501 => ((act_Middle.f k bt501.1 bt501.2.1 bt501.2.2.1 bt501.2.2.2.1 bt501.2.2.2.2.1 bt501.2.2.2.2.2 x7 g).bind fun bt513 => ((w12_plain.f Y0 Y1 Y2 Y3 Y4 Y5).bind fun bt517 => ((r12_Run.f k bt517.1 bt517.2.1 bt517.2.2.1 bt517.2.2.2.1 bt517.2.2.2.2.1 bt517.2.2.2.2.2 x7 g).bind fun bt529 => (if bt513.2 = bt529.2 then (w12_ActShuts.j4 k bt513.1 ((bt513.1.length : Int) != (bt529.1.length : Int))) else (w12_ActShuts.j4 k bt513.1 true)))))) R) : ∀ (d i : Nat), g.length - i = d → i ≤ g.length →
    Ev (fun k => w12_ActShuts.l0 k g u x7 L soft all (g.length : Int) (i : Int) Y0 Y1 Y2 Y3 Y4 Y5) R
  | d, i, hd, hi => by
    refine Ev.step (fun k => by rw [w12_ActShuts.l0]) ?_
    by_cases c : i < g.length
    · obtain ⟨d, rfl⟩ : ∃ e, d = e + 1 := ⟨d - 1, by omega⟩
      have hlL : L.length = g.length := by rw [hL, List.length_zipWith]; omega
      have hla : all.length = g.length := by rw [hall, List.length_zipWith]; omega
      have hgo := each_l g u x7 L soft all Y0 Y1 Y2 Y3 Y4 Y5 R hs hg hl hL hall hk d (i + 1) (by omega) (by omega)
      have e0 : rd L (i : Int) = 0 := by rw [rd_nat, hL, zip_getD _ _ _ i c (by omega), fG0]
      have e1 : rd all (i : Int) = fG soft (g.getD i 0) (u.getD i 0) := by rw [rd_nat, hall, zip_getD _ _ _ i c (by omega)]
      have ho := own_gate soft [g.getD i 0] [u.getD i 0]
      rw [gate_one soft _ _ hs] at ho
      rw [w1 i (by omega), Int.toNat_natCast, Int.toNat_natCast, one_cut g i c, one_cut u i (by omega), e0, e1]
      exact ev_pos (by omega) (ev_pos (by omega) (ev_pos (by omega) (ev_pos (by omega) (ev_pos (by omega) (Ev.bind ho (ev_pos (by omega) (ev_pos rfl (ev_pos rfl (ev_pos rfl (ev_pos (show (0 : Int) < 1 by decide) (ev_pos (by omega) (ev_pos rfl hgo))))))))))))
    · obtain rfl : i = g.length := by omega
      exact ev_neg (by omega) hk
theorem ActShuts : w12_ActShuts.Plain := by
  intro g u y hg hu hy
  obtain ⟨⟨g0, _, _⟩, ⟨u0, _, _⟩, ⟨d0, _, _⟩, _⟩ := hy
  refine ev_rounds ?_
  unfold w12_ActShuts.f
  refine Ev.bind awake (ev_pos rfl (ev_pos (by decide) (ev_some (Ev.bind (own_gate _ g u) ?_))))
  have hb : (List.replicate 256 (0 : Int)).length = 256 := List.length_replicate
  have long : g.length > 1048576 ∨ u.length > 1048576 → Ev (fun k => w12_ActShuts.j0 k g u (List.replicate 256 0) (gateL (List.replicate 256 0) g u).1 (gateL (List.replicate 256 0) g u).2 true y.f0 y.f1 y.f2 y.f3 y.f4 y.f5) true := by
    intro h
    have e : gateL (List.replicate 256 0) g u = ([], 81) := by
      unfold gateL
      rw [if_neg (by rw [hb]; simp), if_pos h]
    rw [e]
    refine Ev.step (fun k => by rw [w12_ActShuts.j0]) ?_
    exact ev_pos rfl (ev_pos rfl (Ev.now _))
  by_cases c1 : g.length > 1048576
  · exact ev_pos (by omega) (long (Or.inl c1))
  refine ev_neg (by omega) ?_
  by_cases c2 : u.length > 1048576
  · rw [decide_eq_true (by omega)]
    exact long (Or.inr c2)
  rw [decide_eq_false (by omega)]
  refine Ev.step (fun k => by rw [w12_ActShuts.j0]) ?_
  refine ev_neg (by decide) ?_
  by_cases c3 : g.length = u.length
  · have e : gateL (List.replicate 256 0) g u = (List.zipWith (fG (List.replicate 256 0)) g u, 0) := by
      unfold gateL
      rw [if_neg (by rw [hb]; simp), if_neg (by omega), if_neg (by omega)]
    have hzl : (List.zipWith (fG (List.replicate 256 0)) g u).length = g.length := by rw [List.length_zipWith]; omega
    rw [e]
    refine ev_pos (by omega) (ev_pos rfl ?_)
    rw [hzl, bne_self_eq_false]
    refine Ev.step (fun k => by rw [w12_ActShuts.j1]) ?_
    have hs : ((List.range 256).map tab2).length = 256 := by rw [List.length_map, List.length_range]
    refine ev_neg (by decide) (ev_is (show act_Table.f 2 = some ((List.range 256).map tab2, 0) from rfl) (Ev.bind (own_gate _ g u) ?_))
    have e2 : gateL ((List.range 256).map tab2) g u = (List.zipWith (fG ((List.range 256).map tab2)) g u, 0) := by
      unfold gateL
      rw [if_neg (by rw [hs]; simp), if_neg (by omega), if_neg (by omega)]
    have hzl2 : (List.zipWith (fG ((List.range 256).map tab2)) g u).length = g.length := by rw [List.length_zipWith]; omega
    rw [e2]
    refine ev_pos rfl ?_
    rw [hzl2, bne_self_eq_false]
    refine Ev.step (fun k => by rw [w12_ActShuts.j2]) ?_
    refine ev_neg (by decide) ?_
    rw [hzl]
    refine each_l g u _ _ _ _ y.f0 y.f1 y.f2 y.f3 y.f4 y.f5 true hs (by omega) c3 rfl rfl ?_ _ 0 rfl (Nat.zero_le _)
    have hml := middleL_len y.f0 y.f1 y.f2 y.f3 y.f4 y.f5 (List.replicate 256 0) g
    refine ev_is (copiedS _ _ _ _ _ _ (by omega) (by omega) (by omega)) (Ev.bind (own_middle y.f0 y.f1 y.f2 y.f3 y.f4 y.f5 (List.replicate 256 0) g) (ev_is (plainlyS _ _ _ _ _ _ (by omega) (by omega) (by omega)) (Ev.bind (ref_middle y.f0 y.f1 y.f2 y.f3 y.f4 y.f5 (List.replicate 256 0) g) (ev_pos rfl ?_))))
    rw [bne_self_eq_false]
    refine Ev.step (fun k => by rw [w12_ActShuts.j4]) ?_
    exact ev_neg (by decide) (zeros_l _ hml (middle0 y.f0 y.f1 y.f2 y.f3 y.f4 y.f5 g) _ 0 rfl (Nat.zero_le _))
  · have e : gateL (List.replicate 256 0) g u = ([], 80) := by
      unfold gateL
      rw [if_neg (by rw [hb]; simp), if_neg (by omega), if_pos c3]
    rw [e]
    exact ev_neg (by omega) (ev_pos rfl (Ev.now _))
end Go.Proofs.Ytjcfhgpaipbedaa.Pure
