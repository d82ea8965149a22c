/- ActBends: the usual bends: cut and square are never below 0 and rise; soft of x and of -x differ by x. -/
import Derived.Test.YtjcfhgpaipbedaaStmtActBends
import Derived.Test.YtjcfhgpaipbedaaAct1
namespace Go.Proofs.Ytjcfhgpaipbedaa.Pure
set_option linter.unusedVariables false
open Go.RowKit Go.Proofs.YtjcfhgpaipbedaaW.PrintWords Go.Proofs.YtjcfhgpaipbedaaW.PrintLast Go.Proofs.YtjcfhgpaipbedaaW.PrintMore Go.Proofs.Ytjcfhgpaipbedaa.A Go.Proofs.Ytjcfhgpaipbedaa.St
def tabL (t : Nat → Int) : List Int := (List.range 256).map t
theorem tab_rd (t : Nat → Int) (i : Int) (h0 : 0 ≤ i) (h1 : i < 256) : rd (tabL t) i = t i.toNat := by
  unfold rd tabL
  rw [List.getD_eq_getElem?_getD, List.getElem?_map, List.getElem?_range (by omega)]
  rfl
theorem tab_len (t : Nat → Int) : ((tabL t).length : Int) = 256 := by unfold tabL; rw [List.length_map, List.length_range]; rfl
theorem tab_1 : act_Table.f 1 = some (tabL tab1, 0) := rfl
theorem tab_2 : act_Table.f 2 = some (tabL tab2, 0) := rfl
theorem tab_3 : act_Table.f 3 = some (tabL tab3, 0) := rfl
/-- What cut and square owe at x. -/
def riseB (t : Nat → Int) (x : Int) : Bool :=
  decide (t 0 = 0) && decide (0 ≤ t (x % 256).toNat) && (decide (x = 127) || decide (t (x % 256).toNat ≤ t ((x + 1) % 256).toNat)) && (decide (0 < x) || decide (t (x % 256).toNat = 0))
theorem rise1 : ∀ i : Fin 256, (riseB tab1 ((i.1 : Int) - 128) && (decide ((i.1 : Int) - 128 ≤ 0) || decide (tab1 (((i.1 : Int) - 128) % 256).toNat = (i.1 : Int) - 128))) = true := by decide +kernel
theorem rise3 : ∀ i : Fin 256, riseB tab3 ((i.1 : Int) - 128) = true := by decide +kernel
theorem soft2 : ∀ i : Fin 256, (decide (tab2 0 = 0) && (decide (i.1 = 0) || decide (IntKind.i8.wrap (tab2 (((i.1 : Int) - 128) % 256).toNat - tab2 ((IntKind.i8.wrap (-((i.1 : Int) - 128))) % 256).toNat) = (i.1 : Int) - 128))) = true := by decide +kernel
theorem of8 {P : Int → Bool} (h : ∀ i : Fin 256, P ((i.1 : Int) - 128) = true) (x : Int) (hx : -128 ≤ x ∧ x ≤ 127) : P x = true := by
  have := h ⟨(x + 128).toNat, by omega⟩
  have e : (((x + 128).toNat : Nat) : Int) - 128 = x := by omega
  rw [show (((⟨(x + 128).toNat, by omega⟩ : Fin 256).1 : Nat) : Int) - 128 = x from e] at this
  exact this
theorem rise_spec {t : Nat → Int} {x : Int} (h : riseB t x = true) : t 0 = 0 ∧ 0 ≤ t (x % 256).toNat ∧ (x ≠ 127 → t (x % 256).toNat ≤ t ((x + 1) % 256).toNat) ∧ (x ≤ 0 → t (x % 256).toNat = 0) := by
  unfold riseB at h
  simp only [Bool.and_eq_true, Bool.or_eq_true, decide_eq_true_eq] at h
  obtain ⟨⟨⟨h1, h2⟩, h3⟩, h4⟩ := h
  exact ⟨h1, h2, fun hx => h3.resolve_left hx, fun hx => h4.resolve_left (by omega)⟩
theorem i8w (x : Int) (h : -128 ≤ x ∧ x ≤ 127) : IntKind.i8.wrap x = x := by
  have e : IntKind.i8.wrap x = (x + 128) % 256 - 128 := by
    simp [IntKind.wrap, IntKind.bits, IntKind.signed]
    try omega
  rw [e]; omega
theorem b1 (x : Int) : w12_ActBends_1.f x = some (x % 256) := rfl
theorem rise_ev (x k : Int) (t : Nat → Int) (T : List Int) (hT : T = tabL t) (hx : -128 ≤ x ∧ x ≤ 127) (hk : k ≠ 2) (hr : riseB t x = true) (hgo : Ev (fun n => w12_ActBends.j2 n x k T false) true) : Ev (fun n => w12_ActBends.j1 n x k T false) true := by
  obtain ⟨h0, h1, h2, h3⟩ := rise_spec hr
  have hl : (T.length : Int) = 256 := by rw [hT]; exact tab_len t
  have r1 : rd T (x % 256) = t (x % 256).toNat := by rw [hT]; exact tab_rd t (x % 256) (by omega) (by omega)
  refine Ev.step (fun n => by rw [w12_ActBends.j1]) (ev_neg (by decide) (ev_neg hk (ev_is (b1 x) ?_)))
  refine ev_pos (by omega) (ev_pos (by omega) ?_)
  rw [r1]
  refine ev_neg (by omega) ?_
  have tail : Ev (fun n => if x ≤ 0 then (w12_ActBends_1.f x).bind fun t467 => (if 0 ≤ t467 then (if t467 < (T.length : Int) then (w12_ActBends.j2 n x k T ((rd T t467) != 0)) else none) else none) else w12_ActBends.j2 n x k T false) true := by
    by_cases c : x ≤ 0
    · refine ev_pos c (ev_is (b1 x) (ev_pos (by omega) (ev_pos (by omega) ?_)))
      rw [r1, h3 c]
      exact hgo
    · exact ev_neg c hgo
  by_cases c : x < 127
  · refine ev_pos c ?_
    rw [i8w (x + 1) (by omega)]
    have r2 : rd T ((x + 1) % 256) = t ((x + 1) % 256).toNat := by rw [hT]; exact tab_rd t ((x + 1) % 256) (by omega) (by omega)
    refine ev_is (b1 (x + 1)) (ev_pos (by omega) (ev_pos (by omega) (ev_is (b1 x) (ev_pos (by omega) (ev_pos (by omega) ?_)))))
    rw [r1, r2]
    exact ev_neg (by have := h2 (by omega); omega) tail
  · exact ev_neg c tail
theorem go4 (x : Int) : Ev (fun n => w12_ActBends.l0 n x 4) true := by
  refine Ev.step (fun n => by rw [w12_ActBends.l0]) ?_
  exact ev_neg (by decide) (Ev.now _)
theorem go3 (x : Int) (hx : -128 ≤ x ∧ x ≤ 127) : Ev (fun n => w12_ActBends.l0 n x 3) true := by
  have hr := of8 (P := riseB tab3) rise3 x hx
  obtain ⟨T, hT⟩ : ∃ T, T = tabL tab3 := ⟨_, rfl⟩
  have et : act_Table.f 3 = some (T, 0) := by rw [hT]; exact tab_3
  have hl : (T.length : Int) = 256 := by rw [hT]; exact tab_len tab3
  have z0 : rd T 0 = tab3 0 := by rw [hT]; exact tab_rd tab3 0 (by omega) (by omega)
  refine Ev.step (fun n => by rw [w12_ActBends.l0]) (ev_pos (by decide) (ev_is et (ev_pos rfl ?_)))
  refine ev_pos hl ?_
  dsimp only
  refine ev_pos (by omega) ?_
  rw [z0, show tab3 0 = 0 from (rise_spec hr).1]
  refine rise_ev x 3 tab3 T hT hx (by decide) hr ?_
  refine Ev.step (fun n => by rw [w12_ActBends.j2]) (ev_neg (by decide) (ev_neg (by decide) ?_))
  refine Ev.step (fun n => by rw [w12_ActBends.j3]) (ev_neg (by decide) (ev_neg (by decide) ?_))
  rw [show wrap64 ((3 : Int) + 1) = 4 from w64 (by decide) (by decide)]
  exact go4 x
theorem go2 (x : Int) (hx : -128 ≤ x ∧ x ≤ 127) : Ev (fun n => w12_ActBends.l0 n x 2) true := by
  have hs := of8 (P := fun x => decide (tab2 0 = 0) && (decide (x = -128) || decide (IntKind.i8.wrap (tab2 (x % 256).toNat - tab2 ((IntKind.i8.wrap (-x)) % 256).toNat) = x))) (fun i => by
    have h := soft2 i
    have e : decide (((i.1 : Nat) : Int) - 128 = -128) = decide (i.1 = 0) := by
      by_cases c : i.1 = 0
      · rw [decide_eq_true c, decide_eq_true (by omega)]
      · rw [decide_eq_false c, decide_eq_false (by omega)]
    show (decide (tab2 0 = 0) && (decide (((i.1 : Nat) : Int) - 128 = -128) || _)) = true
    rw [e]
    exact h) x hx
  simp only [Bool.and_eq_true, Bool.or_eq_true, decide_eq_true_eq] at hs
  obtain ⟨T, hT⟩ : ∃ T, T = tabL tab2 := ⟨_, rfl⟩
  have et : act_Table.f 2 = some (T, 0) := by rw [hT]; exact tab_2
  have hl : (T.length : Int) = 256 := by rw [hT]; exact tab_len tab2
  have z0 : rd T 0 = tab2 0 := by rw [hT]; exact tab_rd tab2 0 (by omega) (by omega)
  refine Ev.step (fun n => by rw [w12_ActBends.l0]) (ev_pos (by decide) (ev_is et (ev_pos rfl ?_)))
  refine ev_pos hl ?_
  dsimp only
  refine ev_pos (by omega) ?_
  rw [z0, show tab2 0 = 0 from hs.1]
  refine Ev.step (fun n => by rw [w12_ActBends.j1]) (ev_neg (by decide) (ev_pos rfl ?_))
  have tail : Ev (fun n => w12_ActBends.j3 n x 2 T false) true := by
    refine Ev.step (fun n => by rw [w12_ActBends.j3]) (ev_neg (by decide) (ev_neg (by decide) ?_))
    rw [show wrap64 ((2 : Int) + 1) = 3 from w64 (by decide) (by decide)]
    exact go3 x hx
  refine Ev.step (fun n => by rw [w12_ActBends.j2]) (ev_neg (by decide) (ev_pos rfl ?_))
  by_cases c : x > -128
  · have r1 : rd T (x % 256) = tab2 (x % 256).toNat := by rw [hT]; exact tab_rd tab2 (x % 256) (by omega) (by omega)
    have r2 : rd T ((IntKind.i8.wrap (-x)) % 256) = tab2 ((IntKind.i8.wrap (-x)) % 256).toNat := by rw [hT]; exact tab_rd tab2 _ (by omega) (by omega)
    refine ev_pos c (ev_is (b1 x) (ev_pos (by omega) (ev_pos (by omega) (ev_is (b1 _) (ev_pos (by omega) (ev_pos (by omega) ?_))))))
    rw [r1, r2, hs.2.resolve_left (by omega), bne_self_eq_false]
    exact tail
  · exact ev_neg c tail
theorem go1 (x : Int) (hx : -128 ≤ x ∧ x ≤ 127) : Ev (fun n => w12_ActBends.l0 n x 1) true := by
  have h := of8 (P := fun x => riseB tab1 x && (decide (x ≤ 0) || decide (tab1 (x % 256).toNat = x))) rise1 x hx
  simp only [Bool.and_eq_true, Bool.or_eq_true, decide_eq_true_eq] at h
  obtain ⟨hr, hc⟩ := h
  obtain ⟨T, hT⟩ : ∃ T, T = tabL tab1 := ⟨_, rfl⟩
  have et : act_Table.f 1 = some (T, 0) := by rw [hT]; exact tab_1
  have hl : (T.length : Int) = 256 := by rw [hT]; exact tab_len tab1
  have z0 : rd T 0 = tab1 0 := by rw [hT]; exact tab_rd tab1 0 (by omega) (by omega)
  refine Ev.step (fun n => by rw [w12_ActBends.l0]) (ev_pos (by decide) (ev_is et (ev_pos rfl ?_)))
  refine ev_pos hl ?_
  dsimp only
  refine ev_pos (by omega) ?_
  rw [z0, show tab1 0 = 0 from (rise_spec hr).1]
  refine rise_ev x 1 tab1 T hT hx (by decide) hr ?_
  refine Ev.step (fun n => by rw [w12_ActBends.j2]) (ev_neg (by decide) (ev_neg (by decide) ?_))
  refine Ev.step (fun n => by rw [w12_ActBends.j3]) (ev_neg (by decide) (ev_pos rfl ?_))
  rw [show wrap64 ((1 : Int) + 1) = 2 from w64 (by decide) (by decide)]
  by_cases c : x > 0
  · have r1 : rd T (x % 256) = tab1 (x % 256).toNat := by rw [hT]; exact tab_rd tab1 (x % 256) (by omega) (by omega)
    refine ev_pos c (ev_is (b1 x) (ev_pos (by omega) (ev_pos (by omega) ?_)))
    rw [r1]
    exact ev_pos (hc.resolve_left (by omega)) (go2 x hx)
  · exact ev_neg c (go2 x hx)
theorem ActBends : w12_ActBends.Plain := by
  intro x hx
  refine ev_rounds ?_
  unfold w12_ActBends.f
  exact Ev.bind awake (ev_pos rfl (go1 x (wf8 hx)))
end Go.Proofs.Ytjcfhgpaipbedaa.Pure
