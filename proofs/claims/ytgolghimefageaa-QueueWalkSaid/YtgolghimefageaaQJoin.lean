/- A range over a function that is left by break alone: both ways out meet again. -/
import Derived.RangeFuncBox
import Derived.RangeFuncNested
import Derived.ControlIn
namespace Go.Proofs.Ytgolghimefageaa.QW
open Go.Proofs Go.RowKit
theorem inBlock_exit {F : Fence} {n : Nat} {P : Program} {id : Nat} {Q2 : Exit → Act → World → Prop} {a : Act} {W : World} (h : Q2 .normal a W) : (Code.exit id).wpIn F n P (Exit.inBlock id Q2) a W := by
  refine wpIn_exit ?_
  simpa [Exit.inBlock] using h
theorem inBlock_norm {id : Nat} {Q2 : Exit → Act → World → Prop} {a : Act} {W : World} (h : Q2 .normal a W) : Exit.inBlock id Q2 .normal a W := by
  simpa [Exit.inBlock] using h
section
variable {F : Fence} {n : Nat} {P : Program} {w : World}
theorem wpIn_ownH_join {α : Type} {g : Operand} {ps : Array Tmp} {assign body : Code} {id : Nat} {Q2 : Exit → Act → World → Prop} {a : Act} {w : World}
    (hro : F.round = none) (h1 : 1 ≤ n) {gf : Nat} {lb : Array Value} (hg : a.eval g = .func (.func gf) #[] lb) (hFg : F.fn gf) (eg : ∀ args w, (callFunc gf args).run P w = .ok (.enter gf args) w)
    {encs : α → Array Value} {Kp : World → World → Prop} {S Sp : List α → Prop} {N : Nat} {w0 : World} (hseq : SeqStopsK F (n - 1) P gf lb encs Kp S Sp N w0)
    (hKt : ∀ {A B C : World}, Kp A B → Kp B C → Kp A C) (hKb : ∀ (W : World) (l : Nat) (o o' : Obj), w.heap.size ≤ l → W.heap[l]? = some o → o.isCells = false → o.isWalk = false → Kp W (W.putObj l o')) (hb0 : Below w0.heap.size w0 w) (hps : ∀ x, (encs x).size = ps.size)
    (I : List α → World → Prop) (Ix : Code → List α → World → Prop) (hI : OwnFrom w.heap.size I) (hIx : ∀ c, OwnFrom w.heap.size (Ix c)) (h0 : I [] w) (Ax : α → Act → World → Prop) (hAx : ∀ x a', OwnFrom w.heap.size (fun (_ : Unit) W => Ax x a' W)) (J : World → Prop)
    (hassign : ∀ (l : Nat) (pre : List α) (x : α) (W : World) (K : Act → World → Prop), I pre W → (∀ a' W', KeepsFrom w.heap.size W W' → Kp W W' → I pre W' → Ax x a' W' → K a' W') →
      assign.wpIn (F.inRound l) (n - 1 - 1) P (Exit.then K (fun _ _ _ => False)) { tmps := (ps.zip (encs x)).foldl (fun t (p, v) => t.setIfInBounds p v) a.tmps, defers := [] } W)
    (hbody : ∀ (l : Nat) (pre : List α) (x : α) (a' : Act) (W : World), w.heap.size ≤ l → (∃ r, W.heap[l]? = some (.loop r)) → I pre W → Ax x a' W → pre.length < N → body.wpIn (F.inRound l) (n - 1 - 1) P (ownPostG w.heap.size Kp I Ix (pre ++ [x]) W) a' W)
    (hd : ∀ (xs : List α) (W : World), S xs → I xs W → J W) (hst : ∀ (c : Code) (pre : List α) (W : World), Sp pre → Ix c pre W → c = .exit id ∧ J W)
    (after : ∀ (D : Nat) (W : World), w.heap.size ≤ D → J W → W.heap[D]? = some (.deferred (some [])) → Q2 .normal { a with defers := { target := .collected D, args := #[] } :: a.defers } W) :
    (Code.rangeFunc g ps assign body).wpIn F n P (Exit.inBlock id Q2) a w :=
  wpIn_rangeFunc_ownH hro h1 hg hFg eg hseq (fun h k => hKt h k) hKb hb0 hps I Ix hI hIx h0 Ax hAx hassign hbody
    (fun D xs W hD hs hi hk => inBlock_norm (after D W hD (hd xs W hs hi) hk))
    (fun D c pre W hD hs hx hk => by
      obtain ⟨rfl, hj⟩ := hst c pre W hs hx
      exact inBlock_exit (after D W hD hj hk))
theorem wpIn_ownN_join {α : Type} {g : Operand} {ps : Array Tmp} {assign body : Code} {id : Nat} {Q2 : Exit → Act → World → Prop} {a : Act} {w : World}
    {l₀ : Nat} {r₀ : Loop} (hro : F.round = some l₀) (hl₀ : w.heap[l₀]? = some (.loop r₀)) (h1 : 1 ≤ n) {gf : Nat} {lb : Array Value} (hg : a.eval g = .func (.func gf) #[] lb) (hFg : F.fn gf) (eg : ∀ args w, (callFunc gf args).run P w = .ok (.enter gf args) w)
    {encs : α → Array Value} {Kp : World → World → Prop} {S Sp : List α → Prop} {N : Nat} {w0 : World} (hseq : SeqStopsK F (n - 1) P gf lb encs Kp S Sp N w0)
    (hKt : ∀ {A B C : World}, Kp A B → Kp B C → Kp A C) (hKb : ∀ (W : World) (l : Nat) (o o' : Obj), w.heap.size ≤ l → W.heap[l]? = some o → o.isCells = false → o.isWalk = false → Kp W (W.putObj l o')) (hb0 : Below w0.heap.size w0 w) (hps : ∀ x, (encs x).size = ps.size)
    (I : List α → World → Prop) (Ix : Code → List α → World → Prop) (hI : OwnFrom w.heap.size I) (hIx : ∀ c, OwnFrom w.heap.size (Ix c)) (h0 : I [] w) (Ax : α → Act → World → Prop) (hAx : ∀ x a', OwnFrom w.heap.size (fun (_ : Unit) W => Ax x a' W)) (J : World → Prop)
    (hassign : ∀ (l : Nat) (pre : List α) (x : α) (W : World) (K : Act → World → Prop), I pre W → (∀ a' W', KeepsFrom w.heap.size W W' → Kp W W' → I pre W' → Ax x a' W' → K a' W') →
      assign.wpIn (F.inRound l) (n - 1 - 1) P (Exit.then K (fun _ _ _ => False)) { tmps := (ps.zip (encs x)).foldl (fun t (p, v) => t.setIfInBounds p v) a.tmps, defers := [] } W)
    (hbody : ∀ (l : Nat) (pre : List α) (x : α) (a' : Act) (W : World), w.heap.size ≤ l → (∃ r, W.heap[l]? = some (.loop r)) → I pre W → Ax x a' W → pre.length < N → body.wpIn (F.inRound l) (n - 1 - 1) P (ownPostG w.heap.size Kp I Ix (pre ++ [x]) W) a' W)
    (hd : ∀ (xs : List α) (W : World), S xs → I xs W → J W) (hst : ∀ (c : Code) (pre : List α) (W : World), Sp pre → Ix c pre W → c = .exit id ∧ J W)
    (after : ∀ W : World, J W → Q2 .normal a W) :
    (Code.rangeFunc g ps assign body).wpIn F n P (Exit.inBlock id Q2) a w :=
  wpIn_rangeFunc_ownN hro hl₀ h1 hg hFg eg hseq (fun h k => hKt h k) hKb hb0 hps I Ix hI hIx h0 Ax hAx hassign hbody
    (fun xs W hs hi => inBlock_norm (after W (hd xs W hs hi)))
    (fun c pre W hs hx => by
      obtain ⟨rfl, hj⟩ := hst c pre W hs hx
      exact inBlock_exit (after W hj))
end
end Go.Proofs.Ytgolghimefageaa.QW
