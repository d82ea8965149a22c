/- The greatest need of a request is the document's. -/
import Derived.Test.YtdkcfacmbjboeaaStmtAdmitNeeds
import Derived.Test.YtdkcfacmbjboeaaPureAdmitBase
namespace Go.Proofs.Ytdkcfacmbjboeaa.Pure
set_option linter.unusedSimpArgs false
set_option linter.unusedVariables false
open Go.RowKit Go.Proofs.YtdkcfacmbjboeaaW.PrintWords Go.Proofs.YtdkcfacmbjboeaaW.PrintLast Go.Proofs.YtdkcfacmbjboeaaW.PrintMore Go.Proofs.Ytdkcfacmbjboeaa.R

def needOf (a b c d e f len bud look gram : Int) : Int × Int :=
  if okS a b c d e f then
    if bud < 1 ∨ bud > 512 then (0, 251) else if look < 0 ∨ look > 16 ∨ gram < 0 ∨ gram > 8 then (0, 252) else if len < 1 ∨ len > 512 then (0, 212) else
    if look ≠ 0 ∧ gram = 0 then (wrap64 ((nblocks a b c d e f (len + bud - 1)).1 * 2), 0) else ((nblocks a b c d e f (len + bud - 1)).1, 0)
  else (0, 270)

theorem blocks_ok {a b c d e f p : Int} (h : okS a b c d e f) (h0 : 0 ≤ p) (h1 : p ≤ 2147483648) : (nblocks a b c d e f p).2 = 0 := by
  unfold nblocks
  rw [if_pos h, if_neg (by omega), if_neg (by omega)]

theorem own_need (k : Nat) (a b c d e f : Int) (pr : List Int) (p1 p2 p3 p4 p5 : Int) (bi : List S111) (bud look gram : Int) (ac : List Bool) (ed : List S114) (tp : ByteArray) :
    admit_Need.f (k + 3) a b c d e f pr p1 p2 p3 p4 p5 bi bud look gram ac ed tp = some (needOf a b c d e f pr.length bud look gram) := by
  simp only [admit_Need.f, admit_Need.j0, admit_Need.j1, own_check, own_blocks, Option.bind_some, admit_uses.f, needOf, gt_iff_lt]
  have n0 : (0 : Int) ≤ pr.length := by omega
  generalize (pr.length : Int) = n at *
  by_cases h : okS a b c d e f
  case neg => simp [h]
  by_cases b1 : bud < 1
  case pos => simp [h, b1]
  by_cases b2 : 512 < bud
  case pos => simp [h, b1, b2]
  by_cases l1 : look < 0
  case pos => simp [h, b1, b2, l1]
  by_cases l2 : 16 < look
  case pos => simp [h, b1, b2, l1, l2]
  by_cases g1 : gram < 0
  case pos => simp [h, b1, b2, l1, l2, g1]
  by_cases g2 : 8 < gram
  case pos => simp [h, b1, b2, l1, l2, g1, g2]
  by_cases n1 : n = 0
  case pos => simp [h, b1, b2, l1, l2, g1, g2, n1]
  have n2 : ¬ n < 1 := by omega
  by_cases n3 : 512 < n
  case pos => simp [h, b1, b2, l1, l2, g1, g2, n1, n2, n3]
  have e1 : wrap64 (n + bud) = n + bud := by unfold wrap64; omega
  have e2 : wrap64 (n + bud - 1) = n + bud - 1 := by unfold wrap64; omega
  have e3 := blocks_ok h (p := n + bud - 1) (by omega) (by omega)
  by_cases lk : look = 0
  · simp [h, b1, b2, l1, l2, g1, g2, n1, n2, n3, e1, e2, e3, lk]
  · by_cases gr : gram = 0 <;> simp [h, b1, b2, l1, l2, g1, g2, n1, n2, n3, e1, e2, e3, lk, gr]

theorem ref_need (k : Nat) (a b c d e f : Int) (pr : List Int) (p1 p2 p3 p4 p5 : Int) (bi : List S112) (bud look gram : Int) (ac : List Bool) (ed : List S115) (tp : ByteArray) :
    r27_Need.f (k + 3) a b c d e f pr p1 p2 p3 p4 p5 bi bud look gram ac ed tp = some (needOf a b c d e f pr.length bud look gram) := by
  simp only [r27_Need.f, r27_Need.j0, r27_Need.j1, ref_check, ref_blocks, Option.bind_some, r25_Uses.f, r27_within.f, needOf, gt_iff_lt, ge_iff_le]
  have n0 : (0 : Int) ≤ pr.length := by omega
  generalize (pr.length : Int) = n at *
  by_cases h : okS a b c d e f
  case neg => simp [h]
  by_cases b1 : bud < 1
  case pos => simp [h, b1, show ¬ 1 ≤ bud by omega]
  by_cases b2 : 512 < bud
  case pos => simp [h, b1, b2, show 1 ≤ bud by omega, show ¬ bud ≤ 512 by omega]
  have b3 : 1 ≤ bud := by omega
  have b4 : bud ≤ 512 := by omega
  by_cases l1 : look < 0
  case pos => simp [h, b1, b2, b3, b4, l1, show ¬ 0 ≤ look by omega]
  have l3 : 0 ≤ look := by omega
  by_cases l2 : 16 < look
  case pos => simp [h, b1, b2, b3, b4, l1, l2, l3, show ¬ look ≤ 16 by omega]
  have l4 : look ≤ 16 := by omega
  by_cases g1 : gram < 0
  case pos => simp [h, b1, b2, b3, b4, l1, l2, l3, l4, g1, show ¬ 0 ≤ gram by omega]
  have g3 : 0 ≤ gram := by omega
  by_cases g2 : 8 < gram
  case pos => simp [h, b1, b2, b3, b4, l1, l2, l3, l4, g1, g2, g3, show ¬ gram ≤ 8 by omega]
  have g4 : gram ≤ 8 := by omega
  by_cases n1 : n < 1
  case pos => simp [h, b1, b2, b3, b4, l1, l2, l3, l4, g1, g2, g3, g4, n1]
  by_cases n3 : 512 < n
  case pos => simp [h, b1, b2, b3, b4, l1, l2, l3, l4, g1, g2, g3, g4, n1, n3]
  have e1 : wrap64 (n + bud) = n + bud := by unfold wrap64; omega
  have e2 : wrap64 (n + bud - 1) = n + bud - 1 := by unfold wrap64; omega
  by_cases lk : look = 0
  · simp [h, b1, b2, b3, b4, l1, l2, l3, l4, g1, g2, g3, g4, n1, n3, e1, e2, lk]
  · by_cases gr : gram = 0 <;> simp [h, b1, b2, b3, b4, l1, l2, l3, l4, g1, g2, g3, g4, n1, n3, e1, e2, lk, gr]

theorem wrap_up {i : Nat} {n : Nat} (h : i < n) (hn : n ≤ 140737488351232) : wrap64 ((i : Int) + 1) = ((i + 1 : Nat) : Int) := by unfold wrap64; omega

theorem of_l1 (a : Int) : ∀ (q k i : Nat) (pr : List Int) (c1 c2 c3 c4 c5 : Int) (bi : List S111) (bud look gram : Int) (ac : List Bool) (ed : List S114) (tp : ByteArray) (pr' : List Int) (d1 d2 d3 d4 d5 : Int) (bi' : List S112) (bud' look' gram' : Int) (ac' : List Bool) (ed' : List S115) (tp' : ByteArray),
    ed.length - i = q → i ≤ ed.length → ed'.length ≤ i → ed.length * 24 ≤ 140737488351232 → q < k → ∃ ed'', r25_Of.l1 k i pr c1 c2 c3 c4 c5 bi bud look gram ac ed tp pr' d1 d2 d3 d4 d5 bi' bud' look' gram' ac' ed' tp' =
      some (pr', d1, d2, d3, d4, d5, bi', bud', look', gram', ac', ed'', tp') := by
  intro q
  induction q with
  | zero =>
    intro k i pr c1 c2 c3 c4 c5 bi bud look gram ac ed tp pr' d1 d2 d3 d4 d5 bi' bud' look' gram' ac' ed' tp' hq hi hl hs hk
    obtain ⟨k, rfl⟩ : ∃ m, k = m + 1 := ⟨k - 1, by omega⟩
    refine ⟨ed', ?_⟩
    simp only [r25_Of.l1]
    rw [if_neg (by omega)]
  | succ q ih =>
    intro k i pr c1 c2 c3 c4 c5 bi bud look gram ac ed tp pr' d1 d2 d3 d4 d5 bi' bud' look' gram' ac' ed' tp' hq hi hl hs hk
    obtain ⟨k, rfl⟩ : ∃ m, k = m + 1 := ⟨k - 1, by omega⟩
    simp only [r25_Of.l1]
    rw [if_pos (by omega), if_pos (by omega), if_pos (by omega), wrap_up (n := ed.length) (by omega) (by omega)]
    exact ih k (i + 1) _ _ _ _ _ _ _ _ _ _ _ _ _ _ _ _ _ _ _ _ _ _ _ _ _ _ (by omega) (by omega) (by simp; omega) hs (by omega)

theorem of_l0 (a : Int) : ∀ (q k i : Nat) (pr : List Int) (c1 c2 c3 c4 c5 : Int) (bi : List S111) (bud look gram : Int) (ac : List Bool) (ed : List S114) (tp : ByteArray) (pr' : List Int) (d1 d2 d3 d4 d5 : Int) (bi' : List S112) (bud' look' gram' : Int) (tp' : ByteArray) (e1 e2 e3 e4 e5 : Int),
    bi.length - i = q → i ≤ bi.length → bi'.length ≤ i → bi.length * 16 ≤ 140737488351232 → ed.length * 24 ≤ 140737488351232 → ac.length < 140737488355328 → q + ed.length + 1 < k →
    ∃ bi'' ac'' ed'', r25_Of.l0 k i pr c1 c2 c3 c4 c5 bi bud look gram ac ed tp pr' d1 d2 d3 d4 d5 bi' bud' look' gram' tp' e1 e2 e3 e4 e5 bi =
      some (pr', d1, d2, d3, d4, d5, bi'', bud', look', gram', ac'', ed'', tp') := by
  intro q
  induction q with
  | zero =>
    intro k i pr c1 c2 c3 c4 c5 bi bud look gram ac ed tp pr' d1 d2 d3 d4 d5 bi' bud' look' gram' tp' e1 e2 e3 e4 e5 hq hi hl hs hs2 hac hk
    obtain ⟨k, rfl⟩ : ∃ m, k = m + 1 := ⟨k - 1, by omega⟩
    obtain ⟨ed'', h⟩ := of_l1 a ed.length k 0 pr c1 c2 c3 c4 c5 bi bud look gram ac ed tp pr' d1 d2 d3 d4 d5 bi' bud' look' gram' ([] ++ ac) [] tp' (by omega) (by omega) (by simp) hs2 (by omega)
    refine ⟨bi', [] ++ ac, ed'', ?_⟩
    simp only [r25_Of.l0, Option.bind_some]
    rw [if_neg (by omega), if_pos (by simpa using hac)]
    exact h
  | succ q ih =>
    intro k i pr c1 c2 c3 c4 c5 bi bud look gram ac ed tp pr' d1 d2 d3 d4 d5 bi' bud' look' gram' tp' e1 e2 e3 e4 e5 hq hi hl hs hs2 hac hk
    obtain ⟨k, rfl⟩ : ∃ m, k = m + 1 := ⟨k - 1, by omega⟩
    simp only [r25_Of.l0]
    rw [if_pos (by omega), if_pos (by omega), if_pos (by omega), wrap_up (n := bi.length) (by omega) (by omega)]
    exact ih k (i + 1) _ _ _ _ _ _ _ _ _ _ _ _ _ _ _ _ _ _ _ _ _ _ _ _ _ _ _ _ _ (by omega) (by omega) (by simp; omega) hs hs2 hac (by omega)

theorem of_all (k : Nat) (pr : List Int) (c1 c2 c3 c4 c5 : Int) (bi : List S111) (bud look gram : Int) (ac : List Bool) (ed : List S114) (tp : ByteArray) (hp : pr.length * 8 ≤ 140737488351232) (hb : bi.length * 16 ≤ 140737488351232) (he : ed.length * 24 ≤ 140737488351232) (ha : ac.length ≤ 140737488351232) (hk : bi.length + ed.length + 1 < k) :
    ∃ bi'' ac'' ed'', r25_Of.f k pr c1 c2 c3 c4 c5 bi bud look gram ac ed tp = some (pr, c1, c2, c3, c4, c5, bi'', bud, look, gram, ac'', ed'', tp) := by
  obtain ⟨bi'', ac'', ed'', h⟩ := of_l0 0 bi.length k 0 pr c1 c2 c3 c4 c5 bi bud look gram ac ed tp ([] ++ pr) c1 c2 c3 c4 c5 [] bud look gram tp c1 c2 c3 c4 c5 (by omega) (by omega) (by simp) hb he (by omega) (by omega)
  refine ⟨bi'', ac'', ed'', ?_⟩
  simp only [r25_Of.f, Option.bind_some]
  rw [if_pos (by simp; omega)]
  exact h

theorem AdmitNeeds : w27_AdmitNeeds.Plain := by
  intro s r _ hr
  obtain ⟨⟨h1, _, _⟩, ⟨_, _, _, _, _, h2, _, _⟩, _, _, _, ⟨⟨h3, _, _⟩, ⟨h4, _, _⟩⟩, _⟩ := hr
  obtain ⟨bi, ac, ed, ho⟩ := of_all (r.f1.f5.length + r.f5.f1.length + 3) r.f0 r.f1.f0 r.f1.f1 r.f1.f2 r.f1.f3 r.f1.f4 r.f1.f5 r.f2 r.f3 r.f4 r.f5.f0 r.f5.f1 r.f6 h1 h2 h4 (by omega) (by omega)
  refine ⟨r.f1.f5.length + r.f5.f1.length + 3, ?_⟩
  simp only [w27_AdmitNeeds.f, w27_given.f, Option.bind_some, ho, own_need, ref_need]
  have hw : w27_awake.f (r.f1.f5.length + r.f5.f1.length + 3) = some true := awake_true _
  rw [hw]
  simp
end Go.Proofs.Ytdkcfacmbjboeaa.Pure
