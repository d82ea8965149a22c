/- The document's list of places, call by call. -/
import Derived.Test.YtmcmkdpidppcaaaA2
import Derived.Test.YtmcmkdpidppcaaaPurePool1
namespace Go.Proofs.Ytmcmkdpidppcaaa.Pure
set_option linter.unusedVariables false
open Go.RowKit Go.Proofs.YtmcmkdpidppcaaaW.PrintWords Go.Proofs.YtmcmkdpidppcaaaW.PrintLast Go.Proofs.YtmcmkdpidppcaaaW.PrintMore Go.Proofs.Ytmcmkdpidppcaaa.A Go.Proofs.Ytmcmkdpidppcaaa.St
theorem ev_pos {α : Type} {c : Prop} [Decidable c] {A B : Nat → Option α} {r : α} (h : c) (e : Ev A r) : Ev (fun k => if c then A k else B k) r := by
  refine Ev.congr (fun k => ?_) e
  rw [if_pos h]
theorem ev_neg {α : Type} {c : Prop} [Decidable c] {A B : Nat → Option α} {r : α} (h : ¬ c) (e : Ev B r) : Ev (fun k => if c then A k else B k) r := by
  refine Ev.congr (fun k => ?_) e
  rw [if_neg h]
theorem ev_is {α β : Type} {o : Option α} {a : α} {f : Nat → α → Option β} {r : β} (h : o = some a) (e : Ev (fun k => f k a) r) : Ev (fun k => o.bind fun y => f k y) r := by
  subst h; exact e
theorem w64 {x : Int} (h1 : -9223372036854775808 ≤ x) (h2 : x < 9223372036854775808) : wrap64 x = x := by unfold wrap64; omega
theorem w1 (i : Nat) (h : i < 4611686018427387904) : wrap64 ((i : Int) + 1) = ((i + 1 : Nat) : Int) := by rw [w64 (by omega) (by omega)]; omega
/-- The places, as the program has them. -/
def toS (L : List S66) : List (Bool × Int) := L.map fun s => (s.f0, s.f1)
theorem toS_len (L : List S66) : (toS L).length = L.length := List.length_map _
theorem rd_at (L : List S66) (i : Nat) (h : i < L.length) : (rd_T66 L (i : Int)).f0 = ((toS L).getD i (false, 0)).1 ∧ (rd_T66 L (i : Int)).f1 = ((toS L).getD i (false, 0)).2 := by
  unfold rd_T66 toS
  rw [Int.toNat_natCast, List.getD_eq_getElem?_getD, List.getD_eq_getElem?_getD, List.getElem?_map, List.getElem?_eq_getElem h]
  exact ⟨rfl, rfl⟩
theorem put_is (L : List S66) (i : Nat) (t : Bool) (v : Int) (h : i < L.length) (hL : L.length ≤ 65536) : r05_put.f L (i : Int) t v = some (L.set i ⟨t, v⟩) := by
  unfold r05_put.f
  simp only [Option.bind_some, List.nil_append, List.length_nil]
  rw [if_pos (by omega), if_pos (by omega), if_pos (by omega), Int.toNat_natCast]
theorem toS_set (L : List S66) (i : Nat) (t : Bool) (v : Int) : toS (L.set i ⟨t, v⟩) = (toS L).set i (t, v) := List.map_set
theorem taken_is (L : List S66) (i : Int) : r05_Taken.f L i = some (hasL (toS L) i) := by
  unfold r05_Taken.f hasL
  rw [toS_len]
  by_cases c0 : 0 ≤ i
  · rw [if_pos (by omega), decide_eq_true c0, Bool.true_and]
    by_cases c1 : i < (L.length : Int)
    · rw [if_pos c1, if_pos c0, decide_eq_true c1, Bool.true_and]
      obtain ⟨k, rfl⟩ : ∃ k : Nat, i = (k : Int) := ⟨i.toNat, by omega⟩
      rw [(rd_at L k (by omega)).1, Int.toNat_natCast]
    · rw [if_neg c1, decide_eq_false c1, Bool.false_and]
  · rw [if_neg (by omega), decide_eq_false c0, Bool.false_and]
theorem take_full (L : List S66) (v : Int) (hL : L.length ≤ 65536) (h : ∀ j, j < L.length → ((toS L).getD j (false, 0)).1 = true) : ∀ (d i : Nat), L.length - i = d → i ≤ L.length → Ev (fun k => r05_Take.l0 k L v (i : Int)) (L, -1, 50)
  | d, i, hd, hi => by
    refine Ev.step (fun k => by rw [r05_Take.l0]) ?_
    by_cases c : i < L.length
    · obtain ⟨d, rfl⟩ : ∃ e, d = e + 1 := ⟨d - 1, by omega⟩
      refine ev_pos (by omega) (ev_pos (by omega) (ev_pos (by rw [(rd_at L i c).1]; exact h i c) ?_))
      rw [w1 i (by omega)]
      exact take_full L v hL h d (i + 1) (by omega) (by omega)
    · exact ev_neg (by omega) (Ev.now _)
theorem take_at (L : List S66) (v : Int) (hL : L.length ≤ 65536) (m : Nat) (hm : m < L.length) (hf : ((toS L).getD m (false, 0)).1 = false) (h : ∀ j, j < m → ((toS L).getD j (false, 0)).1 = true) : ∀ (d i : Nat), m - i = d → i ≤ m → Ev (fun k => r05_Take.l0 k L v (i : Int)) (L.set m ⟨true, v⟩, (m : Int), 0)
  | d, i, hd, hi => by
    refine Ev.step (fun k => by rw [r05_Take.l0]) ?_
    by_cases c : i < m
    · obtain ⟨d, rfl⟩ : ∃ e, d = e + 1 := ⟨d - 1, by omega⟩
      refine ev_pos (by omega) (ev_pos (by omega) (ev_pos (by rw [(rd_at L i (by omega)).1]; exact h i c) ?_))
      rw [w1 i (by omega)]
      exact take_at L v hL m hm hf h d (i + 1) (by omega) (by omega)
    · obtain rfl : i = m := by omega
      exact ev_pos (by omega) (ev_pos (by omega) (ev_neg (by rw [(rd_at L i hm).1, hf]; decide) (ev_is (put_is L i true v hm hL) (Ev.now _))))
end Go.Proofs.Ytmcmkdpidppcaaa.Pure
