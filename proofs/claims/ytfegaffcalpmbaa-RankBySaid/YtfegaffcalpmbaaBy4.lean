/- RankBy: the law's walk. -/
import Derived.Shelf.RegionOpenPlain
import Derived.Lib.Walk
import Derived.Maps.AppendAt
import Derived.Laws.AppendOwnNone
import Derived.Deep.AppendLies
import Derived.Test.YtfegaffcalpmbaaWEqStruct
import Derived.Test.YtfegaffcalpmbaaWLast
import Derived.Test.YtfegaffcalpmbaaWMore
import Derived.Test.YtfegaffcalpmbaaBy3
namespace Go.Proofs.Ytfegaffcalpmbaa.St
open Go.Proofs Go.Shelf Go.RowKit Go.Lib Go.Sort Go.Proofs.YtfegaffcalpmbaaW.PrintWords Go.Proofs.YtfegaffcalpmbaaW.PrintLast Go.Proofs.YtfegaffcalpmbaaW.PrintMore
/-- Things' cells. -/
def thingCells (ts : List (Int × ByteArray)) : List Value := ts.flatMap fun t => [.int .i64 t.1, .string t.2]
theorem thingCells_len (ts : List (Int × ByteArray)) : (thingCells ts).length = ts.length * 2 := by
  induction ts with
  | nil => rfl
  | cons s S ih => show (([_, _] : List Value) ++ thingCells S).length = _; rw [List.length_append, ih, List.length_cons]; simp only [List.length_cons, List.length_nil]; omega
theorem thingCells_get : ∀ (ts : List (Int × ByteArray)) (i : Nat), i < ts.length → (thingCells ts)[i * 2]? = some (.int .i64 (ts.getD i (0, ByteArray.empty)).1) ∧ (thingCells ts)[i * 2 + 1]? = some (.string (ts.getD i (0, ByteArray.empty)).2)
  | t :: ts, 0, _ => ⟨rfl, rfl⟩
  | t :: ts, i + 1, h => by
    have ih := thingCells_get ts i (by simpa using h)
    rw [show (i + 1) * 2 = i * 2 + 2 by omega, show i * 2 + 2 + 1 = (i * 2 + 1) + 2 by omega]
    exact ⟨by simpa [thingCells] using ih.1, by simpa [thingCells] using ih.2⟩
theorem infoT : (Try.prog.info? 38).map (fun i => (i.zero, i.size, i.bytes)) = some (some (.agg #[.int .i64 0, .string ByteArray.empty]), 2, 24) := by kernel_rfl
theorem ThingRow.cells {w : World} {ad : Addr} {ts : List (Int × ByteArray)} (h : ThingRow w (some ad) ts) : ∀ (j : Nat) (u : Value), (thingCells ts)[j]? = some u → w.cell? (ad.add j) = some u := by
  intro j u hj
  have hl : j < ts.length * 2 := by
    rw [← thingCells_len]
    exact (List.getElem?_eq_some_iff.1 hj).1
  obtain ⟨ad', e, h0, h1⟩ := h (j / 2) (by omega)
  injection e with e
  subst e
  obtain ⟨g0, g1⟩ := thingCells_get ts (j / 2) (by omega)
  rcases Nat.mod_two_eq_zero_or_one j with c | c
  · rw [show j / 2 * 2 = j by omega] at h0 g0
    rw [hj] at g0
    rw [h0]
    exact g0.symm
  · rw [show j / 2 * 2 + 1 = j by omega] at g1
    rw [hj] at g1
    rw [Option.some.inj g1, ← h1]
    have e : (⟨(ad.add (j / 2 * 2)).block, (ad.add (j / 2 * 2)).off + 1, none⟩ : Addr) = ad.add j := by
      unfold Addr.add
      split <;> split <;> first | (simp_all; done) | (simp; omega) | omega
    rw [e]
theorem neT (k : Int) (s : ByteArray) (W : World) : (binOp .neq 38 (.agg #[.int .i64 k, .string s]) (.agg #[.int .i64 k, .string s])).run Try.prog W = .ok (.bool false) W := by
  have h : (Op.equalIn 10000 38 (.agg #[.int .i64 k, .string s]) (.agg #[.int .i64 k, .string s])).run Try.prog W = .ok (k == k && true) W := by
    refine eqA_of (d := 9999) Try.underlying38 (by kernel_rfl) ?_
    refine eqf_cons (by rfl) (by go_simp; rfl) (by go_simp; rfl) (by go_simp) ?_
    exact eqf_last (by rfl) (by go_simp; rfl) (by go_simp; rfl) (by go_simp)
  rw [run_neq_struct, h]
  simp
end Go.Proofs.Ytfegaffcalpmbaa.St
