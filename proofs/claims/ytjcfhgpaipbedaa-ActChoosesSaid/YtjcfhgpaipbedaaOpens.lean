/- Any argument that can be read as data, opened into the printed words: its list, its structs, with what its numbers and sizes are bound by. -/
import Derived.ProofKit
import Derived.OpenShut
import Derived.ShutString
import Derived.Deep.Slices
import Derived.SizedLaws
import Derived.ChangeOld
import Derived.Test.YtjcfhgpaipbedaaKInvWordsMore
namespace Go.Proofs.Ytjcfhgpaipbedaa.Ops
open Go.RowKit Go.ChangeShapes Go.WideShapes Go.Deep Go.Proofs.YtjcfhgpaipbedaaW.PrintWords

/-- No slice or string in a datum is longer than the reach. -/
def Light {H : Type} (P : Program) (t : TypeId) (x : DataW H) : Prop := ∀ n ∈ x.weights P t, n ≤ 140737488351232

theorem reach_eq : reachBytes = 140737488351232 := rfl

theorem light_of {H : Type} {P : Program} {ts : List TypeId} {ds : List (DataW H)} {j : Nat} {t : TypeId} {d : DataW H} (h : (DataW.weightsEach P ts ds).all (· ≤ reachBytes) = true) (ht : ts[j]? = some t) (hd : ds[j]? = some d) : Light P t d := fun n hn => by
  have := List.all_eq_true.1 h _ (DataW.weights_mem_each ht hd n hn)
  have h2 := of_decide_eq_true this
  rw [reach_eq] at h2
  exact h2

theorem weights_mem_all {H : Type} {P : Program} {e : TypeId} : ∀ {l : List (DataW H)} {x : DataW H}, x ∈ l → ∀ n ∈ x.weights P e, n ∈ DataW.weightsAll P e l
  | y :: l, x, hx, n, hn => by
    rw [DataW.weightsAll]
    rcases List.mem_cons.1 hx with rfl | hx
    · exact List.mem_append_left _ hn
    · exact List.mem_append_right _ (weights_mem_all hx n hn)

def Opens {α : Type} (P : Program) (t : TypeId) (d : Kd α) (G : α → Prop) : Prop :=
  ∀ (H : Type) (enc : TypeId × Value → H) (W : World) (fuel : Nat) (cs : List Value) (x : DataW H) (ps : List MemPlace),
    DataW.trod enc P W 0 (fun _ => true) true fuel t cs = some (x, ps) → Light P t x → ∃ a, d.K W a cs ∧ G a

theorem Opens.int {P : Program} {t : TypeId} {k : IntKind} (h : P.underlying t = some (.int k)) : Opens P t (Kd.int k) (fun a => (Lit.int k a).wf = true) := by
  intro H enc W fuel cs x ps hx _
  obtain ⟨n, rfl, _, hw⟩ := DataW.trod_int h hx
  exact ⟨n, rfl, hw⟩

theorem Opens.bool {P : Program} {t : TypeId} (h : P.underlying t = some .bool) : Opens P t Kd.bool (fun _ => True) := by
  intro H enc W fuel cs x ps hx _
  obtain ⟨n, rfl, _⟩ := DataW.trod_bool h hx
  exact ⟨n, rfl, trivial⟩

theorem Opens.string {P : Program} {t : TypeId} (h : P.underlying t = some .string) : Opens P t Kd.string (fun s => s.size ≤ 140737488351232) := by
  intro H enc W fuel cs x ps hx hl
  obtain ⟨s, rfl, he, _⟩ := DataW.trod_string h hx
  obtain ⟨rfl, _⟩ := Prod.mk.inj he
  refine ⟨s, rfl, ?_⟩
  have := hl s.data.toList.length (by simp [DataW.weights])
  rw [Array.length_toList] at this
  exact this

theorem Opens.slice {α : Type} {P : Program} {t e : TypeId} {d : Kd α} {G : α → Prop} (z : α) (ht : P.underlying t = some (.slice e)) (hc : P.cellsOf e = d.sz) {B : Nat} (hB : P.bytesOf e = B) (h : Opens P e d G) :
    Opens P t (Kd.slice e d) (fun l => l.length * B ≤ 140737488351232 ∧ l.length ≤ 9223372036854775807 ∧ ∀ x ∈ l, G x) := by
  intro H enc W fuel cs x ps hx hl
  rcases open_slice ht hx with ⟨rfl, he⟩ | ⟨a, len, cap, m, n, D, Pl, rfl, _, hlc, hm, hmm, he, hel⟩
  · exact ⟨[], ⟨none, 0, rfl, Nat.le_refl _, rfl, by simp, fun h => absurd h (by simp)⟩, by simp, by simp, fun x hx => by simp at hx⟩
  · obtain ⟨rfl, _⟩ := Prod.mk.inj he
    have hmc : m = cap := by simpa using hmm
    subst hmc
    have hlight : ∀ i, i < len → Light P e (D i) := fun i hi k hk => hl k (by
      simp only [DataW.weights, ht]
      exact List.mem_cons_of_mem _ (List.mem_append_left _ (weights_mem_all (List.mem_map.2 ⟨i, List.mem_range.2 hi, rfl⟩) k hk)))
    have hsz : len * B ≤ 140737488351232 := by
      have h1 := hl ((((List.range len).map D).length + ((List.range (m - len)).map fun j => D (len + j)).length) * P.bytesOf e) (by simp only [DataW.weights, ht]; exact List.mem_cons_self)
      simp only [List.length_map, List.length_range, hB] at h1
      exact Nat.le_trans (Nat.mul_le_mul_right _ (by omega)) h1
    haveI : Inhabited α := ⟨z⟩
    obtain ⟨f, hf⟩ := choose_lt (α := α) (n := len) (p := fun i y => G y ∧ ∃ c, c.length = d.sz ∧ d.K W y c ∧ ∀ k u, c[k]? = some u → W.cell? (a.add (i * d.sz + k)) = some u) (fun i hi => by
      obtain ⟨cs', hc1, hc2⟩ := hel i (by omega)
      obtain ⟨y, hK, hG⟩ := h H enc W n cs' (D i) (Pl i) hc2 (hlight i hi)
      obtain ⟨_, hlen, hcell⟩ := World.cells?_some hc1
      refine ⟨y, hG, cs', by rw [hlen, hc], hK, fun k u hu => ?_⟩
      have hk : k < cs'.length := (List.getElem?_eq_some_iff.1 hu).1
      have := hcell k (by omega)
      rw [hu, Deep.add_add, hc] at this
      exact this)
    refine ⟨(List.range len).map f, ⟨some a, m, by simp, by simpa using hlc, by simp, ?_, fun _ => ⟨a, rfl, fun j p hj => ?_⟩⟩, by simpa using hsz, ?_, fun x hx => ?_⟩
    · simp only [List.length_map, List.length_range]
      unfold maxLen at hm
      omega
    · have hj' : j < len := by have := (List.getElem?_eq_some_iff.1 hj).1; simpa using this
      have e1 : p = f j := by
        rw [List.getElem?_map, List.getElem?_range hj'] at hj
        simpa using hj.symm
      subst e1
      exact (hf j hj').2
    · simp only [List.length_map, List.length_range]
      unfold maxLen at hm
      omega
    · obtain ⟨i, hi, rfl⟩ := List.mem_map.1 hx
      exact (hf i (List.mem_range.1 hi)).1

def OpensF {β : Type} (P : Program) (fs : List Field) (o : Nat) (d : Kd β) (G : β → Prop) : Prop :=
  ∀ (H : Type) (enc : TypeId × Value → H) (W : World) (n : Nat) (cs : List Value) (xs : List (DataW H × List MemPlace)), cs.length = o + d.sz →
    (∀ (i : Nat) (f : Field), fs[i]? = some f → ∃ y, xs[i]? = some y ∧ DataW.trod enc P W 0 (fun _ => true) true n f.type ((cs.drop f.offset).take (P.cellsOf f.type)) = some y ∧ Light P f.type y.1) →
    ∃ a, d.K W a (cs.drop o) ∧ G a

theorem OpensF.one {β : Type} {P : Program} {f : Field} {o : Nat} {d : Kd β} {G : β → Prop} (ho : f.offset = o) (hc : P.cellsOf f.type = d.sz) (h : Opens P f.type d G) : OpensF P [f] o d G := by
  intro H enc W n cs xs hl hx
  obtain ⟨y, _, hy, hL⟩ := hx 0 f rfl
  rw [ho, hc, List.take_of_length_le (by rw [List.length_drop]; omega)] at hy
  exact h H enc W n _ y.1 y.2 hy hL

theorem OpensF.cons {β γ : Type} {P : Program} {f : Field} {fs : List Field} {o : Nat} {d : Kd β} {d' : Kd γ} {G : β → Prop} {G' : γ → Prop} (ho : f.offset = o) (hc : P.cellsOf f.type = d.sz) (h : Opens P f.type d G) (h' : OpensF P fs (o + d.sz) d' G') :
    OpensF P (f :: fs) o (Kd.pair d d') (fun p => G p.1 ∧ G' p.2) := by
  intro H enc W n cs xs hl hx
  have hl' : cs.length = o + (d.sz + d'.sz) := hl
  obtain ⟨y, _, hy, hL⟩ := hx 0 f rfl
  rw [ho, hc] at hy
  obtain ⟨a, hK, hG⟩ := h H enc W n _ y.1 y.2 hy hL
  obtain ⟨b, hK', hG'⟩ := h' H enc W n cs (xs.drop 1) (by omega) (fun i g hg => by
    obtain ⟨y', h1, h2, h3⟩ := hx (i + 1) g (by simpa using hg)
    exact ⟨y', by rw [List.getElem?_drop, Nat.add_comm]; exact h1, h2, h3⟩)
  refine ⟨(a, b), ⟨(cs.drop o).take d.sz, cs.drop (o + d.sz), ?_, hK, hK'⟩, hG, hG'⟩
  rw [← List.drop_drop, List.take_append_drop]

theorem Opens.struct {β γ : Type} {P : Program} {t : TypeId} {fs : Array Field} {d : Kd β} {G : β → Prop} (f : γ → β) (g : β → γ) (hfg : ∀ b, f (g b) = b) (ht : P.underlying t = some (.struct fs)) (hc : P.cellsOf t = d.sz) (h : OpensF P fs.toList 0 d G) :
    Opens P t (Kd.iso d f) (fun y => G (f y)) := by
  intro H enc W fuel cs x ps hx hl
  obtain ⟨xs, n, rfl, he, hlen, hxl, hel⟩ := DataW.trod_struct ht hx
  obtain ⟨rfl, _⟩ := Prod.mk.inj he
  obtain ⟨b, hK, hG⟩ := h H enc W n cs xs (by omega) (fun i f hf => by
    have hi : i < fs.size := by have := (List.getElem?_eq_some_iff.1 hf).1; simpa using this
    have hf' : fs[i]? = some f := by simpa using hf
    have h1 := hel i f hf'
    rw [List.getElem?_eq_getElem (by omega)] at h1
    refine ⟨_, List.getElem?_eq_getElem (by omega), h1, fun k hk => hl k ?_⟩
    simp only [DataW.weights, ht]
    refine DataW.weights_mem_each (j := i) (t := f.type) (d := (xs[i]'(by omega)).1) ?_ ?_ k hk
    · rw [List.getElem?_map, hf]; rfl
    · rw [List.getElem?_map, List.getElem?_eq_getElem (by omega)]; rfl)
  exact ⟨g b, by show d.K W (f (g b)) cs; rw [hfg]; simpa using hK, by show G (f (g b)); rw [hfg]; exact hG⟩

theorem Opens.imp {α : Type} {P : Program} {t : TypeId} {d : Kd α} {G G' : α → Prop} (h : Opens P t d G) (hi : ∀ a, G a → G' a) : Opens P t d G' := by
  intro H enc W fuel cs x ps hx hl
  obtain ⟨a, hK, hG⟩ := h H enc W fuel cs x ps hx hl
  exact ⟨a, hK, hi a hG⟩

section
variable {H : Type} {enc : TypeId × Value → H} {P : Program} {W : World} {r : Reach} {b0 : Nat} {t : TypeId} {v : Value} {x : DataW H} {ps : List MemPlace}

theorem arg_struct {γ : Type} {fs : Array Field} {d : Kd γ} {G : γ → Prop} (h : Opens P t d G) (ht : P.underlying t = some (.struct fs)) (hv : Value.okWide P W r b0 t v) (hx : DataW.Trod enc P W 0 (fun _ => true) true t v x ps) (hl : Light P t x) :
    ∃ (cs : List Value) (y : γ), v = .agg cs.toArray ∧ d.K W y cs ∧ G y := by
  obtain ⟨cs, rfl, _⟩ := okWide_struct ht hv
  obtain ⟨fuel, hf⟩ := hx
  obtain ⟨y, hK, hG⟩ := h H enc W fuel _ x ps hf hl
  exact ⟨cs.toList, y, by simp, hK, hG⟩

theorem arg_slice {α : Type} {e : TypeId} {d : Kd α} {G : List α → Prop} (h : Opens P t (Kd.slice e d) G) (ht : P.underlying t = some (.slice e)) (hv : Value.okWide P W r b0 t v) (hx : DataW.Trod enc P W 0 (fun _ => true) true t v x ps) (hl : Light P t x) :
    ∃ (A : Option Addr) (c : Nat) (l : List α), v = .slice A l.length c ∧ l.length ≤ c ∧ d.C W A l.length l ∧ G l := by
  obtain ⟨A, n, c, rfl⟩ := okWide_slice ht hv
  obtain ⟨fuel, hf⟩ := hx
  obtain ⟨l, ⟨A', c', he, hlc, hC⟩, hG⟩ := h H enc W fuel _ x ps hf hl
  simp only [Value.cells, List.cons.injEq, Value.slice.injEq, and_true] at he
  obtain ⟨rfl, rfl, rfl⟩ := he
  exact ⟨_, _, l, rfl, hlc, hC, hG⟩
end
end Go.Proofs.Ytjcfhgpaipbedaa.Ops
