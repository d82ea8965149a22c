/- Several texts in one (StPlain, StWalk1, StWalk2, StWalk3, StWalk4, StWalk5, StIns, StWalk6, Places, Rank1, Rank2, Rank3). -/
import Derived.Sort.LotA
import Derived.Shelf.SlSortCmp.Kit1
import Derived.Deep.LoopGhost
import Derived.WalkKit
import Derived.BigRegion
import Derived.Test.YthmckhfjaleomaaProg
import Derived.Shelf.SlSortCmp.Insertion
import Derived.Shelf.SlSortCmp.Insertion1
import Derived.Ground.SlsfProg
import Derived.Below
import Derived.Test.YthmckhfjaleomaaKInvWordsMore
/- The plain half of slices.SortStableFunc: its text as functions over an array and a 'less', and what they make of a row. No model in this text. -/
namespace Go.Proofs.Ythmckhfjaleomaa.St
open Go.Sort
variable {α : Type} [Inhabited α]

/-! ### The functions, after the library's text -/
def swapFrom (a b n i : Nat) (d : Array α) : Array α := if i < n then swapFrom a b n (i + 1) (swp d (a + i) (b + i)) else d
termination_by n - i

def rot (m i j : Nat) (d : Array α) : Array α :=
 if _h : i = 0 ∨ j = 0 then d else
 if _h1 : i = j then swapFrom (m - i) m i 0 d else
 if _h2 : j < i then rot m (i - j) j (swapFrom (m - i) m j 0 d) else rot m i (j - i) (swapFrom (m - i) (m + j - i) i 0 d)
termination_by i + j

def search (P : Nat → Bool) (i j : Nat) : Nat :=
 if _h : i < j then if P ((i + j) / 2) then search P ((i + j) / 2 + 1) j else search P i ((i + j) / 2) else i
termination_by j - i

def shiftUp (k e : Nat) (d : Array α) : Array α := if k + 1 < e then shiftUp (k + 1) e (swp d k (k + 1)) else d
termination_by e - k

def shiftDown (i : Nat) : Nat → Array α → Array α
 | 0, d => d
 | k + 1, d => if i < k + 1 then shiftDown i k (swp d (k + 1) k) else d

variable (lt : α → α → Bool)

def symStart (d : Array α) (a m b : Nat) : Nat :=
 search (fun c => !lt d[(a + b) / 2 + m - 1 - c]! d[c]!) (if (a + b) / 2 < m then (a + b) / 2 + m - b else a) (if (a + b) / 2 < m then (a + b) / 2 else m)

def symRot (d : Array α) (s m e : Nat) : Array α := if s < m ∧ m < e then rot m (m - s) (e - m) d else d

def symMerge : Nat → Array α → Nat → Nat → Nat → Array α
 | 0, d, _, _, _ => d
 | f + 1, d, a, m, b =>
  if m - a = 1 then shiftUp a (search (fun h => lt d[h]! d[a]!) m b) d
  else if b - m = 1 then shiftDown (search (fun h => !lt d[m]! d[h]!) a m) m d
  else
   let s := symStart lt d a m b
   let mid := (a + b) / 2
   let e := mid + m - s
   let d1 := symRot d s m e
   let d2 := if a < s ∧ s < mid then symMerge f d1 a s mid else d1
   if mid < e ∧ e < b then symMerge f d2 mid e b else d2

def blocks (s n a : Nat) (d : Array α) : Array α :=
 if _h : 0 < s ∧ a + s ≤ n then blocks s n (a + s) (insertionSort lt d a (a + s)) else insertionSort lt d a n
termination_by n - a
decreasing_by omega

def pass (s n a : Nat) (d : Array α) : Array α :=
 if _h : 0 < s ∧ a + 2 * s ≤ n then pass s n (a + 2 * s) (symMerge lt n d a (a + s) (a + 2 * s))
 else if a + s < n then symMerge lt n d a (a + s) n else d
termination_by n - a
decreasing_by omega

def passes (s n : Nat) (d : Array α) : Array α := if _h : 0 < s ∧ s < n then passes (2 * s) n (pass lt s n 0 d) else d
termination_by n - s
decreasing_by omega

def stable (d : Array α) : Array α := passes lt 20 d.size (blocks lt 20 d.size 0 d)

/-! ### What they make of a row -/
variable {lt}

theorem permIn_swp (d : Array α) {a b i j : Nat} (h1 : a ≤ i) (h2 : i < b) (h3 : a ≤ j) (h4 : j < b) (hb : b ≤ d.size) : PermIn a b d (swp d i j) := swp_permIn d a b i j h1 h2 h3 h4 hb

theorem swapFrom_spec (a b n : Nat) (hab : a + n ≤ b) : ∀ (r i : Nat) (d : Array α), n - i = r → i ≤ n → b + n ≤ d.size →
  (swapFrom a b n i d).size = d.size ∧ (∀ k, (swapFrom a b n i d)[k]! = if a + i ≤ k ∧ k < a + n then d[k - a + b]! else if b + i ≤ k ∧ k < b + n then d[k - b + a]! else d[k]!) ∧
  (∀ lo hi, lo ≤ a → b + n ≤ hi → hi ≤ d.size → PermIn lo hi d (swapFrom a b n i d)) := by
 intro r
 induction r with
 | zero =>
  intro i d hr hi hs
  rw [swapFrom, if_neg (by omega)]
  refine ⟨rfl, fun k => ?_, fun lo hi _ _ _ => permIn_refl d lo hi⟩
  rw [if_neg (by omega), if_neg (by omega)]
 | succ r ih =>
  intro i d hr hi hs
  rw [swapFrom, if_pos (by omega)]
  obtain ⟨h1, h2, h3⟩ := ih (i + 1) (swp d (a + i) (b + i)) (by omega) (by omega) (by rw [size_swp]; exact hs)
  refine ⟨by rw [h1, size_swp], fun k => ?_, fun lo hi' hlo hhi hsz => ?_⟩
  ·rw [h2 k]
   have g := swp_get d (i := a + i) (j := b + i) (by omega) (by omega)
   rw [g, g, g]
   by_cases c1 : a + i ≤ k ∧ k < a + n
   ·rw [if_pos c1]
    by_cases c2 : k = a + i
    ·subst c2
     rw [if_neg (by omega), if_neg (by omega), if_neg (by omega), if_pos rfl]
     congr 1; omega
    ·rw [if_pos (by omega), if_neg (by omega), if_neg (by omega)]
   ·rw [if_neg c1, if_neg (by omega)]
    by_cases c3 : b + i ≤ k ∧ k < b + n
    ·rw [if_pos c3]
     by_cases c4 : k = b + i
     ·subst c4
      rw [if_neg (by omega), if_pos rfl]
      congr 1; omega
     ·rw [if_pos (by omega), if_neg (by omega), if_neg (by omega)]
    ·rw [if_neg c3, if_neg (by omega), if_neg (by omega), if_neg (by omega)]
  ·exact permIn_trans _ _ _ _ _ (permIn_swp d (by omega) (by omega) (by omega) (by omega) hsz) (h3 lo hi' hlo hhi (by rw [size_swp]; exact hsz))

theorem swapRange_spec (a b n : Nat) (d : Array α) (hab : a + n ≤ b) (hs : b + n ≤ d.size) :
  (swapFrom a b n 0 d).size = d.size ∧ (∀ k, (swapFrom a b n 0 d)[k]! = if a ≤ k ∧ k < a + n then d[k - a + b]! else if b ≤ k ∧ k < b + n then d[k - b + a]! else d[k]!) ∧
  (∀ lo hi, lo ≤ a → b + n ≤ hi → hi ≤ d.size → PermIn lo hi d (swapFrom a b n 0 d)) := by
 obtain ⟨h1, h2, h3⟩ := swapFrom_spec a b n hab n 0 d (by omega) (by omega) hs
 exact ⟨h1, by simpa using h2, h3⟩

/-- Where an element stands behind a rotation. -/
theorem rot_spec (m : Nat) : ∀ (q i j : Nat) (d : Array α), i + j = q → 0 < i → 0 < j → i ≤ m → m + j ≤ d.size →
  (rot m i j d).size = d.size ∧ (∀ k, (rot m i j d)[k]! = if m - i ≤ k ∧ k < m - i + j then d[k + i]! else if m - i + j ≤ k ∧ k < m + j then d[k - j]! else d[k]!) ∧
  (∀ lo hi, lo + i ≤ m → m + j ≤ hi → hi ≤ d.size → PermIn lo hi d (rot m i j d)) := by
 intro q
 induction q using Nat.strongRecOn with
 | _ q ih =>
  intro i j d hq hi hj him hs
  rw [rot, dif_neg (by omega)]
  by_cases e : i = j
  ·rw [dif_pos e]
   subst e
   obtain ⟨h1, h2, h3⟩ := swapRange_spec (m - i) m i d (by omega) hs
   refine ⟨h1, fun k => ?_, fun lo hi' hlo hhi hsz => h3 lo hi' (by omega) hhi hsz⟩
   rw [h2 k]
   by_cases c1 : m - i ≤ k ∧ k < m - i + i
   ·rw [if_pos c1, if_pos c1]; congr 1; omega
   ·rw [if_neg c1, if_neg c1]
    by_cases c2 : m ≤ k ∧ k < m + i
    ·rw [if_pos c2, if_pos (by omega)]; congr 1; omega
    ·rw [if_neg c2, if_neg (by omega)]
  ·rw [dif_neg e]
   by_cases c : j < i
   ·rw [dif_pos c]
    obtain ⟨h1, h2, h3⟩ := swapRange_spec (m - i) m j d (by omega) hs
    obtain ⟨g1, g2, g3⟩ := ih (i - j + j) (by omega) (i - j) j (swapFrom (m - i) m j 0 d) rfl (by omega) hj (by omega) (by rw [h1]; exact hs)
    refine ⟨by rw [g1, h1], fun k => ?_, fun lo hi' hlo hhi hsz => permIn_trans _ _ _ _ _ (h3 lo hi' (by omega) hhi hsz) (g3 lo hi' (by omega) hhi (by rw [h1]; exact hsz))⟩
    obtain ⟨t, rfl⟩ : ∃ t, i = j + t := ⟨i - j, by omega⟩
    obtain ⟨u, rfl⟩ : ∃ u, m = j + t + u := ⟨m - (j + t), by omega⟩
    rw [g2 k]
    have e1 : j + t + u - (j + t - j) = u + j := by omega
    have e2 : j + t - j = t := by omega
    have e3 : j + t + u - (j + t) = u := by omega
    rw [e3] at h2
    rw [e1, e2, e3]
    by_cases c1 : u ≤ k ∧ k < u + j
    ·rw [if_neg (by omega), if_neg (by omega), if_pos c1, h2, if_pos c1]; congr 1; omega
    ·rw [if_neg c1]
     by_cases c2 : u + j ≤ k ∧ k < j + t + u + j
     ·rw [if_pos c2]
      by_cases c3 : u + j ≤ k ∧ k < u + j + j
      ·rw [if_pos c3, h2, if_neg (by omega), if_pos (by omega)]; congr 1; omega
      ·rw [if_neg c3, if_pos (by omega), h2, if_neg (by omega), if_neg (by omega)]
     ·rw [if_neg c2, if_neg (by omega), if_neg (by omega), h2, if_neg c1, if_neg (by omega)]
   ·rw [dif_neg c]
    obtain ⟨h1, h2, h3⟩ := swapRange_spec (m - i) (m + j - i) i d (by omega) (by omega)
    obtain ⟨g1, g2, g3⟩ := ih (i + (j - i)) (by omega) i (j - i) (swapFrom (m - i) (m + j - i) i 0 d) rfl hi (by omega) him (by rw [h1]; omega)
    refine ⟨by rw [g1, h1], fun k => ?_, fun lo hi' hlo hhi hsz => permIn_trans _ _ _ _ _ (h3 lo hi' (by omega) (by omega) hsz) (g3 lo hi' hlo (by omega) (by rw [h1]; exact hsz))⟩
    rw [g2 k, h2, h2, h2]
    by_cases c1 : m - i ≤ k ∧ k < m - i + j
    ·rw [if_pos c1]
     by_cases c2 : m - i ≤ k ∧ k < m - i + (j - i)
     ·rw [if_pos c2, if_neg (by omega), if_neg (by omega)]
     ·rw [if_neg c2]
      by_cases c3 : m - i + (j - i) ≤ k ∧ k < m + (j - i)
      ·rw [if_pos c3]
       rw [if_pos (by omega)]; congr 1; omega
      ·omega
    ·rw [if_neg c1, if_neg (by omega)]
     by_cases c2 : m - i + j ≤ k ∧ k < m + j
     ·rw [if_pos c2]
      by_cases c3 : m - i + (j - i) ≤ k ∧ k < m + (j - i)
      ·omega
      ·rw [if_neg c3, if_neg (by omega), if_pos (by omega)]; congr 1; omega
     ·rw [if_neg c2, if_neg (by omega), if_neg (by omega), if_neg (by omega)]

theorem search_spec (P : Nat → Bool) : ∀ (q i j : Nat), j - i = q → i ≤ j → (∀ h h', i ≤ h → h ≤ h' → h' < j → P h' = true → P h = true) →
  i ≤ search P i j ∧ search P i j ≤ j ∧ (∀ h, i ≤ h → h < search P i j → P h = true) ∧ (∀ h, search P i j ≤ h → h < j → P h = false) := by
 intro q
 induction q using Nat.strongRecOn with
 | _ q ih =>
  intro i j hq hij hm
  rw [search]
  by_cases c : i < j
  ·rw [dif_pos c]
   cases hp : P ((i + j) / 2) with
   | true =>
    rw [if_pos rfl]
    obtain ⟨h1, h2, h3, h4⟩ := ih (j - ((i + j) / 2 + 1)) (by omega) ((i + j) / 2 + 1) j rfl (by omega) (fun h h' a1 a2 a3 => hm h h' (by omega) a2 a3)
    refine ⟨by omega, h2, fun h a1 a2 => ?_, h4⟩
    by_cases c2 : h ≤ (i + j) / 2
    ·exact hm h ((i + j) / 2) a1 c2 (by omega) hp
    ·exact h3 h (by omega) a2
   | false =>
    rw [if_neg (by simp)]
    obtain ⟨h1, h2, h3, h4⟩ := ih ((i + j) / 2 - i) (by omega) i ((i + j) / 2) rfl (by omega) (fun h h' a1 a2 a3 => hm h h' a1 a2 (by omega))
    refine ⟨h1, by omega, h3, fun h a1 a2 => ?_⟩
    by_cases c2 : h < (i + j) / 2
    ·exact h4 h a1 c2
    ·cases hh : P h with
     | false => rfl
     | true => rw [hm ((i + j) / 2) h (by omega) (by omega) a2 hh] at hp; exact hp
  ·rw [dif_neg c]
   exact ⟨Nat.le_refl _, hij, fun h a1 a2 => by omega, fun h a1 a2 => by omega⟩

theorem shiftUp_spec (e : Nat) : ∀ (q k : Nat) (d : Array α), e - k = q → k < e → e ≤ d.size →
  (shiftUp k e d).size = d.size ∧ (∀ p, (shiftUp k e d)[p]! = if k ≤ p ∧ p + 1 < e then d[p + 1]! else if p + 1 = e then d[k]! else d[p]!) ∧
  (∀ lo hi, lo ≤ k → e ≤ hi → hi ≤ d.size → PermIn lo hi d (shiftUp k e d)) := by
 intro q
 induction q with
 | zero => intro k d hq hk; omega
 | succ q ih =>
  intro k d hq hk hs
  rw [shiftUp]
  by_cases c : k + 1 < e
  ·rw [if_pos c]
   obtain ⟨h1, h2, h3⟩ := ih (k + 1) (swp d k (k + 1)) (by omega) c (by rw [size_swp]; exact hs)
   refine ⟨by rw [h1, size_swp], fun p => ?_, fun lo hi hlo hhi hsz => permIn_trans _ _ _ _ _ (permIn_swp d hlo (by omega) (by omega) (by omega) hsz) (h3 lo hi (by omega) hhi (by rw [size_swp]; exact hsz))⟩
   have g := swp_get d (i := k) (j := k + 1) (by omega) (by omega)
   rw [h2 p, g, g, g]
   by_cases c1 : k ≤ p ∧ p + 1 < e
   ·rw [if_pos c1]
    by_cases c2 : p = k
    ·subst c2
     rw [if_neg (by omega), if_neg (by omega), if_neg (by omega), if_pos rfl]
    ·rw [if_pos (by omega), if_neg (by omega), if_neg (by omega)]
   ·rw [if_neg c1, if_neg (by omega)]
    by_cases c2 : p + 1 = e
    ·rw [if_pos c2, if_pos c2, if_pos rfl]
    ·rw [if_neg c2, if_neg c2, if_neg (by omega), if_neg (by omega)]
  ·rw [if_neg c]
   refine ⟨rfl, fun p => ?_, fun lo hi _ _ _ => permIn_refl d lo hi⟩
   rw [if_neg (by omega)]
   by_cases c2 : p + 1 = e
   ·rw [if_pos c2]; congr 1; omega
   ·rw [if_neg c2]

theorem shiftDown_spec (i : Nat) : ∀ (k : Nat) (d : Array α), i ≤ k → k < d.size →
  (shiftDown i k d).size = d.size ∧ (∀ p, (shiftDown i k d)[p]! = if i < p ∧ p ≤ k then d[p - 1]! else if p = i then d[k]! else d[p]!) ∧
  (∀ lo hi, lo ≤ i → k < hi → hi ≤ d.size → PermIn lo hi d (shiftDown i k d)) := by
 intro k
 induction k with
 | zero =>
  intro d hi hs
  rw [shiftDown]
  refine ⟨rfl, fun p => ?_, fun lo hi _ _ _ => permIn_refl d lo hi⟩
  rw [if_neg (by omega)]
  by_cases c : p = i
  ·rw [if_pos c]; congr 1; omega
  ·rw [if_neg c]
 | succ k ih =>
  intro d hi hs
  rw [shiftDown]
  by_cases c : i < k + 1
  ·rw [if_pos c]
   obtain ⟨h1, h2, h3⟩ := ih (swp d (k + 1) k) (by omega) (by rw [size_swp]; omega)
   refine ⟨by rw [h1, size_swp], fun p => ?_, fun lo hi hlo hhi hsz => permIn_trans _ _ _ _ _ (permIn_swp d (by omega) (by omega) (by omega) (by omega) hsz) (h3 lo hi hlo (by omega) (by rw [size_swp]; exact hsz))⟩
   have g := swp_get d (i := k + 1) (j := k) (by omega) (by omega)
   rw [h2 p, g, g, g]
   by_cases c1 : i < p ∧ p ≤ k + 1
   ·rw [if_pos c1]
    by_cases c2 : p = k + 1
    ·subst c2
     rw [if_neg (by omega), if_neg (by omega), if_neg (by omega), if_pos rfl]
     congr 1
    ·rw [if_pos (by omega), if_neg (by omega), if_neg (by omega)]
   ·rw [if_neg c1, if_neg (by omega)]
    by_cases c2 : p = i
    ·rw [if_pos c2, if_pos c2, if_pos rfl]
    ·rw [if_neg c2, if_neg c2, if_neg (by omega), if_neg (by omega)]
  ·rw [if_neg c]
   refine ⟨rfl, fun p => ?_, fun lo hi _ _ _ => permIn_refl d lo hi⟩
   rw [if_neg (by omega)]
   by_cases c2 : p = i
   ·rw [if_pos c2]; congr 1; omega
   ·rw [if_neg c2]

/-- Rising by an order T. -/
def Up (T : α → α → Prop) (a b : Nat) (d : Array α) : Prop := ∀ i j, a ≤ i → i < j → j < b → T d[i]! d[j]!
/-- 'less' tells of an earlier and a later one which is ahead. -/
def Tells (lt : α → α → Bool) (T : α → α → Prop) (x y : α) : Prop := (lt y x = true → T y x) ∧ (lt y x = false → T x y)
def Cross (lt : α → α → Bool) (T : α → α → Prop) (a m b : Nat) (d : Array α) : Prop := ∀ p q, a ≤ p → p < m → m ≤ q → q < b → Tells lt T d[p]! d[q]!

structure Ord (T : α → α → Prop) : Prop where
 irrefl : ∀ x, ¬ T x x
 trans : ∀ x y z, T x y → T y z → T x z

theorem Up.le {T : α → α → Prop} {a b : Nat} {d : Array α} (h : Up T a b d) (O : Ord T) {i j : Nat} {y : α} (h1 : a ≤ i) (h2 : i ≤ j) (h3 : j < b) (hy : T d[j]! y) : T d[i]! y := by
 rcases Nat.lt_or_ge i j with c | c
 ·exact O.trans _ _ _ (h i j h1 c h3) hy
 ·obtain rfl : i = j := by omega
  exact hy
theorem Up.ge {T : α → α → Prop} {a b : Nat} {d : Array α} (h : Up T a b d) (O : Ord T) {i j : Nat} {y : α} (h1 : a ≤ i) (h2 : i ≤ j) (h3 : j < b) (hy : T y d[i]!) : T y d[j]! := by
 rcases Nat.lt_or_ge i j with c | c
 ·exact O.trans _ _ _ hy (h i j h1 c h3)
 ·obtain rfl : i = j := by omega
  exact hy

omit [Inhabited α] in
theorem Tells.yes {T : α → α → Prop} {x y : α} (O : Ord T) (h : Tells lt T x y) (ht : T y x) : lt y x = true := by
 cases hc : lt y x with
 | true => rfl
 | false => exact absurd (O.trans _ _ _ ht (h.2 hc)) (O.irrefl _)
omit [Inhabited α] in
theorem Tells.no {T : α → α → Prop} {x y : α} (O : Ord T) (h : Tells lt T x y) (ht : T x y) : lt y x = false := by
 cases hc : lt y x with
 | false => rfl
 | true => exact absurd (O.trans _ _ _ ht (h.1 hc)) (O.irrefl _)

theorem symMerge_spec {T : α → α → Prop} (O : Ord T) : ∀ (f a m b : Nat) (d : Array α), b - a ≤ f → a < m → m < b → b ≤ d.size → Up T a m d → Up T m b d → Cross lt T a m b d →
  PermIn a b d (symMerge lt f d a m b) ∧ Up T a b (symMerge lt f d a m b) := by
 intro f
 induction f with
 | zero => intro a m b d hf; omega
 | succ f ih =>
  intro a m b d hf ham hmb hs hL hR hC
  rw [symMerge]
  by_cases c1 : m - a = 1
  ·rw [if_pos c1]
   obtain ⟨s1, s2, s3, s4⟩ := search_spec (fun h => lt d[h]! d[a]!) (b - m) m b rfl (by omega) (fun h h' k1 k2 k3 hp => by
    have t := hC a h' (by omega) (by omega) (by omega) k3
    exact (hC a h (by omega) (by omega) k1 (by omega)).yes O (hR.le O k1 k2 k3 (t.1 hp)))
   generalize search (fun h => lt d[h]! d[a]!) m b = s at *
   obtain ⟨g1, g2, g3⟩ := shiftUp_spec s (s - a) a d rfl (by omega) (by omega)
   refine ⟨g3 a b (Nat.le_refl _) s2 hs, fun i j h1 h2 h3 => ?_⟩
   rw [g2 i, g2 j]
   by_cases ci : a ≤ i ∧ i + 1 < s
   ·rw [if_pos ci]
    by_cases cj : a ≤ j ∧ j + 1 < s
    ·rw [if_pos cj]; exact hR _ _ (by omega) (by omega) (by omega)
    ·rw [if_neg cj]
     by_cases ej : j + 1 = s
     ·rw [if_pos ej]; exact (hC a (i + 1) (by omega) (by omega) (by omega) (by omega)).1 (s3 (i + 1) (by omega) (by omega))
     ·rw [if_neg ej]; exact hR _ _ (by omega) (by omega) (by omega)
   ·rw [if_neg ci, if_neg (show ¬ (a ≤ j ∧ j + 1 < s) by omega)]
    by_cases ei : i + 1 = s
    ·rw [if_pos ei, if_neg (by omega)]
     exact (hC a j (by omega) (by omega) (by omega) (by omega)).2 (s4 j (by omega) (by omega))
    ·rw [if_neg ei, if_neg (by omega)]; exact hR _ _ (by omega) (by omega) (by omega)
  ·rw [if_neg c1]
   by_cases c2 : b - m = 1
   ·rw [if_pos c2]
    obtain ⟨s1, s2, s3, s4⟩ := search_spec (fun h => !lt d[m]! d[h]!) (m - a) a m rfl (by omega) (fun h h' k1 k2 k3 hp => by
     have t := hC h' m (by omega) (by omega) (by omega) (by omega)
     have hp' : lt d[m]! d[h']! = false := by simpa using hp
     have := (hC h m (by omega) (by omega) (by omega) (by omega)).no O (hL.le O k1 k2 k3 (t.2 hp'))
     simpa using this)
    generalize search (fun h => !lt d[m]! d[h]!) a m = s at *
    obtain ⟨g1, g2, g3⟩ := shiftDown_spec s m d s2 (by omega)
    refine ⟨g3 a b s1 hmb hs, fun i j h1 h2 h3 => ?_⟩
    rw [g2 i, g2 j]
    by_cases ci : s < i ∧ i ≤ m
    ·rw [if_pos ci, if_pos (by omega)]; exact hL _ _ (by omega) (by omega) (by omega)
    ·rw [if_neg ci]
     by_cases ei : i = s
     ·rw [if_pos ei, if_pos (by omega)]
      have hq := s4 (j - 1) (by omega) (by omega)
      exact (hC (j - 1) m (by omega) (by omega) (by omega) (by omega)).1 (by simpa using hq)
     ·rw [if_neg ei]
      by_cases cj : s < j ∧ j ≤ m
      ·rw [if_pos cj]; exact hL _ _ (by omega) (by omega) (by omega)
      ·rw [if_neg cj]
       by_cases ej : j = s
       ·rw [if_pos ej]
        have hq := s3 i (by omega) (by omega)
        exact (hC i m (by omega) (by omega) (by omega) (by omega)).2 (by simpa using hq)
       ·rw [if_neg ej]; exact hL _ _ (by omega) (by omega) (by omega)
   ·rw [if_neg c2]
    dsimp only
    obtain ⟨mid, hmid⟩ : ∃ mid, mid = (a + b) / 2 := ⟨_, rfl⟩
    have hmd1 : a < mid := by omega
    have hmd2 : mid < b := by omega
    -- where the halves part
    have hmono : ∀ h h', (if mid < m then mid + m - b else a) ≤ h → h ≤ h' → h' < (if mid < m then mid else m) → (!lt d[mid + m - 1 - h']! d[h']!) = true → (!lt d[mid + m - 1 - h]! d[h]!) = true := by
     intro h h' k1 k2 k3 hp
     have k1' : a ≤ h ∧ mid + m - 1 - h < b := by split at k1 <;> omega
     have k3' : h' < m ∧ m ≤ mid + m - 1 - h' := by split at k3 <;> omega
     have t := hC h' (mid + m - 1 - h') (by omega) (by omega) (by omega) (by omega)
     have hp' : lt d[mid + m - 1 - h']! d[h']! = false := by simpa using hp
     have u := hL.le O k1'.1 k2 k3'.1 (t.2 hp')
     have u2 := hR.ge O (i := mid + m - 1 - h') (j := mid + m - 1 - h) (by omega) (by omega) k1'.2 u
     have := (hC h (mid + m - 1 - h) (by omega) (by omega) (by omega) (by omega)).no O u2
     simpa using this
    obtain ⟨s1, s2, s3, s4⟩ := search_spec (fun c => !lt d[mid + m - 1 - c]! d[c]!) _ (if mid < m then mid + m - b else a) (if mid < m then mid else m) rfl (by split <;> omega) hmono
    have hsd : symStart lt d a m b = search (fun c => !lt d[mid + m - 1 - c]! d[c]!) (if mid < m then mid + m - b else a) (if mid < m then mid else m) := by rw [symStart, hmid]
    rw [← hsd] at s1 s2 s3 s4
    generalize symStart lt d a m b = s at *
    clear hsd hmono
    rw [← hmid]
    obtain ⟨e, he⟩ : ∃ e, e = mid + m - s := ⟨_, rfl⟩
    rw [← he]
    have b1 : a ≤ s ∧ s ≤ mid ∧ s ≤ m ∧ m ≤ e ∧ e ≤ b ∧ mid ≤ e := by
     split at s1 <;> split at s2 <;> omega
    obtain ⟨as_, smid, sm, me, eb, mide⟩ := b1
    -- the rotation
    obtain ⟨d1, hd1⟩ : ∃ d1, d1 = symRot d s m e := ⟨_, rfl⟩
    have hrot : d1.size = d.size ∧ (∀ k, d1[k]! = if s ≤ k ∧ k < mid then d[k + (m - s)]! else if mid ≤ k ∧ k < e then d[k - (e - m)]! else d[k]!) ∧ PermIn a b d d1 := by
     rw [hd1, symRot]
     by_cases cr : s < m ∧ m < e
     ·rw [if_pos cr]
      obtain ⟨g1, g2, g3⟩ := rot_spec m (m - s + (e - m)) (m - s) (e - m) d rfl (by omega) (by omega) (by omega) (by omega)
      refine ⟨g1, fun k => ?_, g3 a b (by omega) (by omega) hs⟩
      rw [g2 k]
      have e1 : m - (m - s) = s := by omega
      have e2 : s + (e - m) = mid := by omega
      have e3 : m + (e - m) = e := by omega
      rw [e1, e2, e3]
     ·rw [if_neg cr]
      refine ⟨rfl, fun k => ?_, permIn_refl d a b⟩
      by_cases q1 : s ≤ k ∧ k < mid
      ·rw [if_pos q1]; congr 1; omega
      ·rw [if_neg q1]
       by_cases q2 : mid ≤ k ∧ k < e
       ·rw [if_pos q2]; congr 1; omega
       ·rw [if_neg q2]
    rw [← hd1]
    clear hd1
    obtain ⟨z1, z2, z3⟩ := hrot
    -- all of the left half are ahead of all of the right half
    have hcross : ∀ i j, a ≤ i → i < mid → mid ≤ j → j < b → T d1[i]! d1[j]! := by
     intro i j h1 h2 h3 h4
     rw [z2 i, z2 j, if_neg (show ¬ (s ≤ j ∧ j < mid) by omega)]
     by_cases ci : s ≤ i ∧ i < mid
     ·rw [if_pos ci]
      by_cases cj : mid ≤ j ∧ j < e
      ·rw [if_pos cj]
       -- an element of R ahead of one of L
       have r0 : s < (if mid < m then mid else m) := by split <;> omega
       have hq := s4 s (Nat.le_refl _) r0
       have hq' : lt d[mid + m - 1 - s]! d[s]! = true := by simpa using hq
       have t := (hC s (mid + m - 1 - s) (by omega) (by omega) (by omega) (by omega)).1 hq'
       have t2 := hL.ge O (i := s) (j := j - (e - m)) (by omega) (by omega) (by omega) t
       exact hR.le O (i := i + (m - s)) (j := mid + m - 1 - s) (by omega) (by omega) (by omega) t2
      ·rw [if_neg cj]
       exact hR _ _ (by omega) (by omega) (by omega)
     ·rw [if_neg ci, if_neg (show ¬ (mid ≤ i ∧ i < e) by omega)]
      by_cases cj : mid ≤ j ∧ j < e
      ·rw [if_pos cj]
       exact hL _ _ (by omega) (by omega) (by omega)
      ·rw [if_neg cj]
       have l0 : (if mid < m then mid + m - b else a) ≤ s - 1 := by split at s1 <;> split <;> omega
       have hq := s3 (s - 1) l0 (by omega)
       have hq' : lt d[mid + m - 1 - (s - 1)]! d[s - 1]! = false := by simpa using hq
       have t := (hC (s - 1) (mid + m - 1 - (s - 1)) (by omega) (by omega) (by omega) (by omega)).2 hq'
       have t2 := hL.le O (i := i) (j := s - 1) h1 (by omega) (by omega) t
       exact hR.ge O (i := mid + m - 1 - (s - 1)) (j := j) (by omega) (by omega) h4 t2
    -- the left half
    have hleft : ∀ d2, d2 = (if a < s ∧ s < mid then symMerge lt f d1 a s mid else d1) → PermIn a mid d1 d2 ∧ Up T a mid d2 := by
     intro d2 hd2
     have l1 : Up T a s d1 := fun i j h1 h2 h3 => by
      rw [z2 i, z2 j, if_neg (by omega), if_neg (by omega), if_neg (by omega), if_neg (by omega)]; exact hL i j h1 h2 (by omega)
     have l2 : Up T s mid d1 := fun i j h1 h2 h3 => by
      rw [z2 i, z2 j, if_pos (by omega), if_pos (by omega)]; exact hR _ _ (by omega) (by omega) (by omega)
     by_cases c : a < s ∧ s < mid
     ·rw [if_pos c] at hd2
      rw [hd2]
      refine ih a s mid d1 (by omega) c.1 c.2 (by omega) l1 l2 (fun p q h1 h2 h3 h4 => ?_)
      rw [z2 p, z2 q, if_neg (by omega), if_neg (by omega), if_pos (by omega)]
      exact hC p (q + (m - s)) h1 (by omega) (by omega) (by omega)
     ·rw [if_neg c] at hd2
      rw [hd2]
      refine ⟨permIn_refl _ _ _, ?_⟩
      by_cases c3 : a < s
      ·exact fun i j h1 h2 h3 => l1 i j h1 h2 (by omega)
      ·exact fun i j h1 h2 h3 => l2 i j (by omega) h2 h3
    obtain ⟨d2, hd2⟩ : ∃ d2, d2 = (if a < s ∧ s < mid then symMerge lt f d1 a s mid else d1) := ⟨_, rfl⟩
    rw [← hd2]
    obtain ⟨p2, u2⟩ := hleft d2 hd2
    clear hleft hd2
    have same2 : ∀ k, mid ≤ k → d2[k]! = d1[k]! := fun k hk => p2.2.1 k (.inr hk)
    have size2 : d2.size = d1.size := p2.1
    have hright : ∀ d3, d3 = (if mid < e ∧ e < b then symMerge lt f d2 mid e b else d2) → PermIn mid b d2 d3 ∧ Up T mid b d3 := by
     intro d3 hd3
     have l1 : Up T mid e d2 := fun i j h1 h2 h3 => by
      rw [same2 i (by omega), same2 j (by omega), z2 i, z2 j, if_neg (by omega), if_pos (by omega), if_neg (by omega), if_pos (by omega)]; exact hL _ _ (by omega) (by omega) (by omega)
     have l2 : Up T e b d2 := fun i j h1 h2 h3 => by
      rw [same2 i (by omega), same2 j (by omega), z2 i, z2 j, if_neg (by omega), if_neg (by omega), if_neg (by omega), if_neg (by omega)]; exact hR _ _ (by omega) (by omega) (by omega)
     by_cases c : mid < e ∧ e < b
     ·rw [if_pos c] at hd3
      rw [hd3]
      refine ih mid e b d2 (by omega) c.1 c.2 (by omega) l1 l2 (fun p q h1 h2 h3 h4 => ?_)
      rw [same2 p (by omega), same2 q (by omega), z2 p, z2 q, if_neg (by omega), if_pos (by omega), if_neg (by omega), if_neg (by omega)]
      exact hC _ q (by omega) (by omega) (by omega) h4
     ·rw [if_neg c] at hd3
      rw [hd3]
      refine ⟨permIn_refl _ _ _, ?_⟩
      by_cases c3 : mid < e
      ·exact fun i j h1 h2 h3 => l1 i j h1 h2 (by omega)
      ·exact fun i j h1 h2 h3 => l2 i j (by omega) h2 h3
    obtain ⟨d3, hd3⟩ : ∃ d3, d3 = (if mid < e ∧ e < b then symMerge lt f d2 mid e b else d2) := ⟨_, rfl⟩
    rw [← hd3]
    obtain ⟨p3, u3⟩ := hright d3 hd3
    have P2 := permIn_mono d1 d2 a mid a b (Nat.le_refl _) (by omega) (by omega) p2
    have P3 := permIn_mono d2 d3 mid b a b (by omega) (Nat.le_refl _) (by omega) p3
    refine ⟨permIn_trans _ _ _ _ _ z3 (permIn_trans _ _ _ _ _ P2 P3), fun i j h1 h2 h3 => ?_⟩
    by_cases ci : j < mid
    ·rw [p3.2.1 i (.inl (by omega)), p3.2.1 j (.inl ci)]
     exact u2 i j h1 h2 ci
    ·by_cases cj : mid ≤ i
     ·exact u3 i j cj h2 h3
     ·rw [p3.2.1 i (.inl (by omega))]
      refine permIn_all d2 d3 mid b (fun y => T d2[i]! y) (by omega) p3 (fun q q1 q2 => ?_) j (by omega) h3
      rw [same2 q q1]
      exact permIn_all d1 d2 a mid (fun x => T x d1[q]!) (by omega) p2 (fun p k1 k2 => hcross p q k1 k2 q1 q2) i h1 (by omega)

/-! ### insertionSort, by an order of its own -/
structure InsT (lt : α → α → Bool) (T : α → α → Prop) (a j i : Nat) (d : Array α) : Prop where
 rest : ∀ p q, a ≤ p → p < q → q ≤ i → p ≠ j → q ≠ j → T d[p]! d[q]!
 right : ∀ q, j < q → q ≤ i → T d[j]! d[q]!
 tells : ∀ p, a ≤ p → p < j → Tells lt T d[p]! d[j]!

theorem InsT.stop {T : α → α → Prop} (O : Ord T) {a j i : Nat} {d : Array α} (h : InsT lt T a j i d) (hs : j ≤ a ∨ lt d[j]! d[j - 1]! = false) : Up T a (i + 1) d := by
 intro p q hap hpq hqi
 by_cases hq : q = j
 ·subst hq
  rcases hs with hs | hs
  ·omega
  ·have t := (h.tells (q - 1) (by omega) (by omega)).2 hs
   by_cases hp : p = q - 1
   ·subst hp; exact t
   ·exact O.trans _ _ _ (h.rest p (q - 1) hap (by omega) (by omega) (by omega) (by omega)) t
 ·by_cases hp : p = j
  ·subst hp; exact h.right q hpq (by omega)
  ·exact h.rest p q hap hpq (by omega) hp hq

theorem InsT.step {T : α → α → Prop} {a j i : Nat} {d : Array α} (h : InsT lt T a (j + 1) i d) (hl : lt d[j + 1]! d[j]! = true) (haj : a ≤ j) (hsz : j + 1 < d.size) : InsT lt T a j i (swp d (j + 1) j) := by
 have g := swp_get d hsz (show j < d.size by omega)
 constructor
 ·intro p q hap hpq hqi hp hq
  rw [g, g]
  by_cases hq1 : q = j + 1
  ·subst hq1
   simp only [hq, hp, if_false, if_true, show p ≠ j + 1 by omega]
   exact h.rest p j hap (by omega) (by omega) (by omega) (by omega)
  ·by_cases hp1 : p = j + 1
   ·subst hp1
    simp only [hq, hp, hq1, if_false, if_true]
    exact h.rest j q haj (by omega) hqi (by omega) hq1
   ·simp only [hq, hp, hq1, hp1, if_false]
    exact h.rest p q hap hpq hqi hp1 hq1
 ·intro q hjq hqi
  rw [g, g]
  by_cases hq1 : q = j + 1
  ·subst hq1
   simpa [show j + 1 ≠ j by omega] using (h.tells j haj (by omega)).1 hl
  ·simp only [if_true, show q ≠ j by omega, hq1, if_false]
   exact h.right q (by omega) hqi
 ·intro p hap hpj
  rw [g, g]
  simp only [if_true, show p ≠ j by omega, show p ≠ j + 1 by omega, if_false]
  exact h.tells p hap (by omega)

theorem insInner_T {T : α → α → Prop} (O : Ord T) (a i : Nat) : ∀ (j : Nat) (d : Array α), a ≤ j → j ≤ i → i < d.size → InsT lt T a j i d → PermIn a (i + 1) d (insInner lt a j d) ∧ Up T a (i + 1) (insInner lt a j d)
 | 0, d, _, _, _, hI => by
  unfold insInner
  exact ⟨permIn_refl d a _, hI.stop O (Or.inl (Nat.zero_le _))⟩
 | j + 1, d, haj, hji, hb, hI => by
  unfold insInner
  split
  ·rename_i hc
   simp only [Bool.and_eq_true, decide_eq_true_eq] at hc
   have ih := insInner_T O a i j (swp d (j + 1) j) (by omega) (by omega) (by rw [swp_size]; exact hb) (hI.step hc.2 (by omega) (by omega))
   exact ⟨permIn_trans _ _ _ _ _ (permIn_swp d (by omega) (by omega) (by omega) (by omega) (by omega)) ih.1, ih.2⟩
  ·rename_i hc
   simp only [Bool.and_eq_true, decide_eq_true_eq, not_and, Bool.not_eq_true] at hc
   refine ⟨permIn_refl d a _, hI.stop O ?_⟩
   by_cases h : j + 1 > a
   ·exact Or.inr (by simpa using hc h)
   ·exact Or.inl (by omega)

/-- Where an element behind a permutation stood. -/
theorem permIn_src {a b : Nat} {d d' : Array α} (hb : b ≤ d.size) (h : PermIn a b d d') (i : Nat) : ∃ k, d'[i]! = d[k]! ∧ (a ≤ i → i < b → a ≤ k ∧ k < b) ∧ (¬ (a ≤ i ∧ i < b) → k = i) := by
 by_cases c : a ≤ i ∧ i < b
 ·obtain ⟨k, k1, k2, e⟩ := permIn_all d d' a b (fun y => ∃ k, a ≤ k ∧ k < b ∧ y = d[k]!) hb h (fun k k1 k2 => ⟨k, k1, k2, rfl⟩) i c.1 c.2
  exact ⟨k, e, fun _ _ => ⟨k1, k2⟩, fun hn => absurd c hn⟩
 ·exact ⟨i, h.2.1 i (by omega), fun h1 h2 => absurd ⟨h1, h2⟩ c, fun _ => rfl⟩

theorem insOuter_T {T : α → α → Prop} (O : Ord T) (a b : Nat) : ∀ (n i : Nat) (d : Array α), b - i = n → a < i → i ≤ b → b ≤ d.size → Up T a i d → (∀ p q, a ≤ p → p < q → i ≤ q → q < b → Tells lt T d[p]! d[q]!) →
  PermIn a b d (insOuter lt a b i d) ∧ Up T a b (insOuter lt a b i d)
 | 0, i, d, hn, _, hib, _, hs, _ => by
  obtain rfl : i = b := by omega
  rw [insOuter, if_neg (by omega)]
  exact ⟨permIn_refl d a i, hs⟩
 | n + 1, i, d, hn, hai, hib, hb, hs, ht => by
  have hlt : i < b := by omega
  rw [insOuter, if_pos hlt]
  have h1 := insInner_T (lt := lt) O a i i d (by omega) (Nat.le_refl _) (by omega) ⟨fun p q hap hpq hqi _ hq => hs p q hap hpq (by omega), fun q h1 h2 => by omega, fun p h1 h2 => ht p i h1 h2 (Nat.le_refl _) hlt⟩
  have h2 := insOuter_T O a b n (i + 1) (insInner lt a i d) (by omega) (by omega) (by omega) (by rw [h1.1.1]; exact hb) h1.2 (fun p q h3 h4 h5 h6 => by
   obtain ⟨k, e, k1, k2⟩ := permIn_src (by omega) h1.1 p
   rw [e, h1.1.2.1 q (.inr (by omega))]
   by_cases c : p < i + 1
   ·have := k1 h3 c; exact ht k q this.1 (by omega) (by omega) h6
   ·rw [k2 (by omega)]; exact ht p q h3 h4 (by omega) h6)
  exact ⟨permIn_trans _ _ _ _ _ (permIn_mono _ _ _ _ _ _ (Nat.le_refl _) (by omega) hb h1.1) h2.1, h2.2⟩

theorem insertionSort_T {T : α → α → Prop} (O : Ord T) (d : Array α) (a b : Nat) (hab : a ≤ b) (hb : b ≤ d.size) (ht : ∀ p q, a ≤ p → p < q → q < b → Tells lt T d[p]! d[q]!) :
  PermIn a b d (insertionSort lt d a b) ∧ Up T a b (insertionSort lt d a b) := by
 unfold insertionSort
 by_cases h : a = b
 ·subst h
  rw [insOuter, if_neg (by omega)]
  exact ⟨permIn_refl d a a, fun i j h1 h2 h3 => by omega⟩
 ·exact insOuter_T O a b (b - (a + 1)) (a + 1) d rfl (by omega) (by omega) hb (fun i j h1 h2 h3 => by omega) (fun p q h1 h2 h3 h4 => ht p q h1 h2 h4)

/-! ### The blocks, the passes -/
def Al (s x : Nat) : Prop := ∃ c, x = c * s
theorem Al.zero (s : Nat) : Al s 0 := ⟨0, by simp⟩
theorem Al.next {s x : Nat} (h : Al s x) : Al s (x + s) := by obtain ⟨c, rfl⟩ := h; exact ⟨c + 1, by rw [Nat.succ_mul]⟩
theorem Al.half {s x : Nat} (h : Al (2 * s) x) : Al s x := by obtain ⟨c, rfl⟩ := h; exact ⟨c * 2, by rw [Nat.mul_assoc]⟩
theorem Al.cmp {s x y : Nat} (hx : Al s x) (hy : Al s y) : x < y → x + s ≤ y := by
 obtain ⟨c, rfl⟩ := hx
 obtain ⟨e, rfl⟩ := hy
 intro h
 have : c < e := by
  rcases Nat.lt_or_ge c e with h1 | h1
  ·exact h1
  ·exact absurd (Nat.mul_le_mul_right s h1) (by omega)
 calc c * s + s = (c + 1) * s := by rw [Nat.succ_mul]
  _ ≤ e * s := Nat.mul_le_mul_right s this

/-- The row in blocks of s, each rising; of unlike blocks 'less' tells. -/
structure Blk (lt : α → α → Bool) (T : α → α → Prop) (s n : Nat) (d : Array α) : Prop where
 up : ∀ x, Al s x → ∀ i j, x ≤ i → i < j → j < x + s → j < n → T d[i]! d[j]!
 tells : ∀ x, Al s x → ∀ i j, i < x → x ≤ j → j < n → Tells lt T d[i]! d[j]!

structure BInv (lt : α → α → Bool) (T : α → α → Prop) (s n a : Nat) (d : Array α) : Prop where
 al : Al s a
 up : ∀ x, Al s x → x + s ≤ a → ∀ i j, x ≤ i → i < j → j < x + s → T d[i]! d[j]!
 tells : ∀ x, Al s x → ∀ i j, i < x → x ≤ j → j < n → Tells lt T d[i]! d[j]!
 rest : ∀ i j, a ≤ i → i < j → j < n → Tells lt T d[i]! d[j]!

theorem blocks_spec {T : α → α → Prop} (O : Ord T) (s n : Nat) (hs0 : 0 < s) : ∀ (q a : Nat) (d : Array α), n - a = q → a ≤ n → n = d.size → BInv lt T s n a d →
  PermIn 0 n d (blocks lt s n a d) ∧ Blk lt T s n (blocks lt s n a d) := by
 intro q
 induction q using Nat.strongRecOn with
 | _ q ih =>
  intro a d hq han hn I
  rw [blocks]
  by_cases c : 0 < s ∧ a + s ≤ n
  ·rw [dif_pos c]
   obtain ⟨p1, u1⟩ := insertionSort_T (lt := lt) O d a (a + s) (by omega) (by omega) (fun p q h1 h2 h3 => I.rest p q h1 h2 (by omega))
   generalize insertionSort lt d a (a + s) = d1 at p1 u1
   obtain ⟨p2, u2⟩ := ih (n - (a + s)) (by omega) (a + s) d1 rfl c.2 (by rw [p1.1]; exact hn) {
    al := I.al.next
    up := fun x hx hxa i j h1 h2 h3 => by
     by_cases e : x = a
     ·subst e; exact u1 i j h1 h2 h3
     ·have hlt : x < a := by omega
      have := hx.cmp I.al hlt
      rw [p1.2.1 i (.inl (by omega)), p1.2.1 j (.inl (by omega))]
      exact I.up x hx this i j h1 h2 h3
    tells := fun x hx i j h1 h2 h3 => by
     obtain ⟨k, e, k1, k2⟩ := permIn_src (by omega) p1 i
     obtain ⟨l, f, l1, l2⟩ := permIn_src (by omega) p1 j
     rw [e, f]
     have hx2 : x ≤ a ∨ a + s ≤ x := by
      rcases Nat.lt_or_ge a x with h | h
      ·exact .inr (I.al.cmp hx h)
      ·exact .inl h
     refine I.tells x hx k l ?_ ?_ ?_
     ·by_cases c3 : a ≤ i ∧ i < a + s
      ·have := k1 c3.1 c3.2; omega
      ·rw [k2 c3]; exact h1
     ·by_cases c3 : a ≤ j ∧ j < a + s
      ·have := l1 c3.1 c3.2; omega
      ·rw [l2 c3]; exact h2
     ·by_cases c3 : a ≤ j ∧ j < a + s
      ·have := l1 c3.1 c3.2; omega
      ·rw [l2 c3]; exact h3
    rest := fun i j h1 h2 h3 => by rw [p1.2.1 i (.inr h1), p1.2.1 j (.inr (by omega))]; exact I.rest i j (by omega) h2 h3 }
   exact ⟨permIn_trans _ _ _ _ _ (permIn_mono _ _ _ _ _ _ (Nat.zero_le _) c.2 (by omega) p1) p2, u2⟩
  ·rw [dif_neg c]
   obtain ⟨p1, u1⟩ := insertionSort_T (lt := lt) O d a n han (by omega) (fun p q h1 h2 h3 => I.rest p q h1 h2 h3)
   generalize insertionSort lt d a n = d1 at p1 u1
   refine ⟨permIn_mono _ _ _ _ _ _ (Nat.zero_le _) (Nat.le_refl _) (by omega) p1, ?_, ?_⟩
   ·intro x hx i j h1 h2 h3 h4
    by_cases e : a ≤ x
    ·exact u1 i j (by omega) h2 h4
    ·have := hx.cmp I.al (by omega)
     rw [p1.2.1 i (.inl (by omega)), p1.2.1 j (.inl (by omega))]
     exact I.up x hx this i j h1 h2 h3
   ·intro x hx i j h1 h2 h3
    obtain ⟨k, e, k1, k2⟩ := permIn_src (by omega) p1 i
    obtain ⟨l, f, l1, l2⟩ := permIn_src (by omega) p1 j
    rw [e, f]
    have hx2 : x ≤ a ∨ a + s ≤ x := by
     rcases Nat.lt_or_ge a x with h | h
     ·exact .inr (I.al.cmp hx h)
     ·exact .inl h
    refine I.tells x hx k l ?_ ?_ ?_
    ·by_cases c3 : a ≤ i ∧ i < n
     ·have := k1 c3.1 c3.2; omega
     ·rw [k2 c3]; exact h1
    ·by_cases c3 : a ≤ j ∧ j < n
     ·have := l1 c3.1 c3.2; omega
     ·rw [l2 c3]; exact h2
    ·by_cases c3 : a ≤ j ∧ j < n
     ·exact (l1 c3.1 c3.2).2
     ·rw [l2 c3]; exact h3

structure PInv (lt : α → α → Bool) (T : α → α → Prop) (s n a : Nat) (d : Array α) : Prop where
 al : Al (2 * s) a
 done : ∀ x, Al (2 * s) x → x + 2 * s ≤ a → ∀ i j, x ≤ i → i < j → j < x + 2 * s → T d[i]! d[j]!
 up : ∀ x, Al s x → a ≤ x → ∀ i j, x ≤ i → i < j → j < x + s → j < n → T d[i]! d[j]!
 tells : ∀ x, Al (2 * s) x → ∀ i j, i < x → x ≤ j → j < n → Tells lt T d[i]! d[j]!
 rest : ∀ x, Al s x → a ≤ x → ∀ i j, a ≤ i → i < x → x ≤ j → j < n → Tells lt T d[i]! d[j]!

theorem pass_spec {T : α → α → Prop} (O : Ord T) (s n : Nat) (hs0 : 0 < s) : ∀ (q a : Nat) (d : Array α), n - a = q → a ≤ n → n = d.size → PInv lt T s n a d →
  PermIn 0 n d (pass lt s n a d) ∧ Blk lt T (2 * s) n (pass lt s n a d) := by
 intro q
 induction q using Nat.strongRecOn with
 | _ q ih =>
  intro a d hq han hn I
  have tells' : ∀ (b : Nat) (d1 : Array α), b ≤ n → (∀ x, Al (2 * s) x → a < x → b ≤ x ∨ n ≤ x) → PermIn a b d d1 → ∀ x, Al (2 * s) x → ∀ i j, i < x → x ≤ j → j < n → Tells lt T d1[i]! d1[j]! := by
   intro b d1 hbn hal p1 x hx i j h1 h2 h3
   obtain ⟨k, e, k1, k2⟩ := permIn_src (by omega) p1 i
   obtain ⟨l, f, l1, l2⟩ := permIn_src (by omega) p1 j
   rw [e, f]
   have hx2 : x ≤ a ∨ b ≤ x ∨ n ≤ x := by
    rcases Nat.lt_or_ge a x with h | h
    ·exact .inr (hal x hx h)
    ·exact .inl h
   refine I.tells x hx k l ?_ ?_ ?_
   ·by_cases c3 : a ≤ i ∧ i < b
    ·have := k1 c3.1 c3.2; omega
    ·rw [k2 c3]; exact h1
   ·by_cases c3 : a ≤ j ∧ j < b
    ·have := l1 c3.1 c3.2; omega
    ·rw [l2 c3]; exact h2
   ·by_cases c3 : a ≤ j ∧ j < b
    ·have := l1 c3.1 c3.2; omega
    ·rw [l2 c3]; exact h3
  have alh : Al s a := I.al.half
  rw [pass]
  by_cases c : 0 < s ∧ a + 2 * s ≤ n
  ·rw [dif_pos c]
   obtain ⟨p1, u1⟩ := symMerge_spec (lt := lt) O n a (a + s) (a + 2 * s) d (by omega) (by omega) (by omega) (by omega)
    (fun i j h1 h2 h3 => I.up a alh (Nat.le_refl _) i j h1 h2 h3 (by omega)) (fun i j h1 h2 h3 => I.up (a + s) alh.next (by omega) i j h1 h2 (by omega) (by omega))
    (fun p q h1 h2 h3 h4 => I.rest (a + s) alh.next (by omega) p q h1 h2 h3 (by omega))
   generalize symMerge lt n d a (a + s) (a + 2 * s) = d1 at p1 u1
   obtain ⟨p2, u2⟩ := ih (n - (a + 2 * s)) (by omega) (a + 2 * s) d1 rfl c.2 (by rw [p1.1]; exact hn) {
    al := I.al.next
    done := fun x hx hxa i j h1 h2 h3 => by
     by_cases e : x = a
     ·subst e; exact u1 i j h1 h2 h3
     ·have := hx.cmp I.al (by omega)
      rw [p1.2.1 i (.inl (by omega)), p1.2.1 j (.inl (by omega))]
      exact I.done x hx this i j h1 h2 h3
    up := fun x hx hxa i j h1 h2 h3 h4 => by
     rw [p1.2.1 i (.inr (by omega)), p1.2.1 j (.inr (by omega))]
     exact I.up x hx (by omega) i j h1 h2 h3 h4
    tells := tells' (a + 2 * s) d1 c.2 (fun x hx h => .inl (I.al.cmp hx h)) p1
    rest := fun x hx hxa i j h1 h2 h3 h4 => by
     rw [p1.2.1 i (.inr (by omega)), p1.2.1 j (.inr (by omega))]
     exact I.rest x hx (by omega) i j (by omega) h2 h3 h4 }
   exact ⟨permIn_trans _ _ _ _ _ (permIn_mono _ _ _ _ _ _ (Nat.zero_le _) c.2 (by omega) p1) p2, u2⟩
  ·rw [dif_neg c]
   have fin : ∀ d1, PermIn a n d d1 → Up T a n d1 → PermIn 0 n d d1 ∧ Blk lt T (2 * s) n d1 := by
    intro d1 p1 u1
    refine ⟨permIn_mono _ _ _ _ _ _ (Nat.zero_le _) (Nat.le_refl _) (by omega) p1, fun x hx i j h1 h2 h3 h4 => ?_, tells' n d1 (Nat.le_refl _) (fun x hx h => .inr (by have := I.al.cmp hx h; omega)) p1⟩
    by_cases e : a ≤ x
    ·exact u1 i j (by omega) h2 h4
    ·have := hx.cmp I.al (by omega)
     rw [p1.2.1 i (.inl (by omega)), p1.2.1 j (.inl (by omega))]
     exact I.done x hx this i j h1 h2 h3
   by_cases c2 : a + s < n
   ·rw [if_pos c2]
    obtain ⟨p1, u1⟩ := symMerge_spec (lt := lt) O n a (a + s) n d (by omega) (by omega) c2 (by omega)
     (fun i j h1 h2 h3 => I.up a alh (Nat.le_refl _) i j h1 h2 h3 (by omega)) (fun i j h1 h2 h3 => I.up (a + s) alh.next (by omega) i j h1 h2 (by omega) (by omega))
     (fun p q h1 h2 h3 h4 => I.rest (a + s) alh.next (by omega) p q h1 h2 h3 (by omega))
    exact fin _ p1 u1
   ·rw [if_neg c2]
    exact fin d (permIn_refl _ _ _) (fun i j h1 h2 h3 => I.up a alh (Nat.le_refl _) i j h1 h2 (by omega) h3)

theorem passes_spec {T : α → α → Prop} (O : Ord T) (n : Nat) : ∀ (q s : Nat) (d : Array α), n - s = q → 0 < s → n = d.size → Blk lt T s n d → PermIn 0 n d (passes lt s n d) ∧ Up T 0 n (passes lt s n d) := by
 intro q
 induction q using Nat.strongRecOn with
 | _ q ih =>
  intro s d hq hs0 hn B
  rw [passes]
  by_cases c : 0 < s ∧ s < n
  ·rw [dif_pos c]
   obtain ⟨p1, b1⟩ := pass_spec (lt := lt) O s n hs0 n 0 d (by omega) (Nat.zero_le _) hn {
    al := Al.zero _
    done := fun x hx h => by omega
    up := fun x hx _ i j h1 h2 h3 h4 => B.up x hx i j h1 h2 h3 h4
    tells := fun x hx i j h1 h2 h3 => B.tells x hx.half i j h1 h2 h3
    rest := fun x hx _ i j _ h2 h3 h4 => B.tells x hx i j h2 h3 h4 }
   obtain ⟨p2, u2⟩ := ih (n - 2 * s) (by omega) (2 * s) (pass lt s n 0 d) rfl (by omega) (by rw [p1.1]; exact hn) b1
   exact ⟨permIn_trans _ _ _ _ _ p1 p2, u2⟩
  ·rw [dif_neg c]
   exact ⟨permIn_refl _ _ _, fun i j h1 h2 h3 => B.up 0 (Al.zero _) i j h1 h2 (by omega) h3⟩

/-- slices.SortStableFunc: a permutation that rises by T, where 'less' tells of the row's earlier and later ones. -/
theorem stable_spec {T : α → α → Prop} (O : Ord T) (d : Array α) (ht : ∀ i j, i < j → j < d.size → Tells lt T d[i]! d[j]!) : PermIn 0 d.size d (stable lt d) ∧ Up T 0 d.size (stable lt d) := by
 unfold stable
 obtain ⟨p1, b1⟩ := blocks_spec (lt := lt) O 20 d.size (by omega) d.size 0 d (by omega) (Nat.zero_le _) rfl {
  al := Al.zero _
  up := fun x hx h => by omega
  tells := fun x hx i j h1 h2 h3 => ht i j (by omega) h3
  rest := fun i j _ h2 h3 => ht i j h2 h3 }
 obtain ⟨p2, u2⟩ := passes_spec (lt := lt) O d.size (d.size - 20) 20 (blocks lt 20 d.size 0 d) rfl (by omega) p1.1.symm b1
 exact ⟨permIn_trans _ _ _ _ _ p1 p2, u2⟩

/-! ### Sizes -/
theorem size_swapFrom (a b n : Nat) : ∀ (q i : Nat) (d : Array α), n - i = q → (swapFrom a b n i d).size = d.size := by
 intro q
 induction q with
 | zero => intro i d h; rw [swapFrom, if_neg (by omega)]
 | succ q ih => intro i d h; rw [swapFrom, if_pos (by omega), ih (i + 1) _ (by omega), size_swp]
theorem size_rot (m : Nat) : ∀ (q i j : Nat) (d : Array α), i + j = q → (rot m i j d).size = d.size := by
 intro q
 induction q using Nat.strongRecOn with
 | _ q ih =>
  intro i j d h
  rw [rot]
  split
  ·rfl
  ·split
   ·exact size_swapFrom _ _ _ _ _ _ rfl
   ·split
    ·rw [ih (i - j + j) (by omega) _ _ _ rfl, size_swapFrom _ _ _ _ _ _ rfl]
    ·rw [ih (i + (j - i)) (by omega) _ _ _ rfl, size_swapFrom _ _ _ _ _ _ rfl]
theorem size_shiftUp (e : Nat) : ∀ (q k : Nat) (d : Array α), e - k = q → (shiftUp k e d).size = d.size := by
 intro q
 induction q with
 | zero => intro k d h; rw [shiftUp, if_neg (by omega)]
 | succ q ih =>
  intro k d h
  rw [shiftUp]
  split
  ·rw [ih (k + 1) _ (by omega), size_swp]
  ·rfl
theorem size_shiftDown (i : Nat) : ∀ (k : Nat) (d : Array α), (shiftDown i k d).size = d.size
 | 0, d => by rw [shiftDown]
 | k + 1, d => by
  rw [shiftDown]
  split
  ·rw [size_shiftDown i k, size_swp]
  ·rfl
theorem size_symRot (d : Array α) (s m e : Nat) : (symRot d s m e).size = d.size := by
 unfold symRot
 split
 ·exact size_rot _ _ _ _ _ rfl
 ·rfl
theorem size_symMerge : ∀ (f : Nat) (d : Array α) (a m b : Nat), (symMerge lt f d a m b).size = d.size
 | 0, d, a, m, b => by rw [symMerge]
 | f + 1, d, a, m, b => by
  rw [symMerge]
  split
  ·exact size_shiftUp _ _ _ _ rfl
  ·split
   ·exact size_shiftDown _ _ _
   ·dsimp only
    split <;> (try rw [size_symMerge f]) <;> split <;> (try rw [size_symMerge f]) <;> exact size_symRot _ _ _ _
theorem size_insInner (a : Nat) : ∀ (j : Nat) (d : Array α), (insInner lt a j d).size = d.size
 | 0, d => by rw [insInner]
 | j + 1, d => by
  rw [insInner]
  split
  ·rw [size_insInner a j, size_swp]
  ·rfl
theorem size_insOuter (a b : Nat) : ∀ (q i : Nat) (d : Array α), b - i = q → (insOuter lt a b i d).size = d.size := by
 intro q
 induction q with
 | zero => intro i d h; rw [insOuter, if_neg (by omega)]
 | succ q ih => intro i d h; rw [insOuter, if_pos (by omega), ih (i + 1) _ (by omega), size_insInner]
theorem size_insertionSort (d : Array α) (a b : Nat) : (insertionSort lt d a b).size = d.size := size_insOuter a b _ _ _ rfl

end Go.Proofs.Ythmckhfjaleomaa.St
/- slices.swapRangeCmpFunc and slices.rotateCmpFunc at []int: what they make of a row, from a world of the sort's to a world of the sort's. -/
namespace Go.Proofs.Ythmckhfjaleomaa.St
open Go.Proofs Go.Shelf Go.RowKit Go.Lib Go.Sort
variable {α : Type} [Inhabited α]

set_option maxHeartbeats 4000000 in
set_option maxRecDepth 1000000 in
theorem swapRange_calls (enc : α → Value) (g : Nat) (cb : Array Value) (blk off cap a b n : Nat) (d0 d : Array α) (w0 w : World)
  (R : Row1 enc w0 blk off d0) (hs : d.size = d0.size) (S : SW enc w0 blk off d w) (hab : a + n ≤ b) (hb : b + n ≤ d0.size) (hsz : d0.size < 4611686018427387904) :
  Calls Try.prog 93 #[.slice (some ⟨blk, off, none⟩) d0.size cap, .int .i64 a, .int .i64 b, .int .i64 n, .func (.func g) #[] cb] w fun e w' => e = .returned (.tuple #[]) ∧ SW enc w0 blk off (swapFrom a b n 0 d) w' := by
 have hcl0 := R.hO.cells
 simp only [Value.cells] at hcl0
 have hst := R.hO.store Try.prog
 have mixed : Try.prog.follows .mixedOrders = true := by kernel_rfl
 have S0 : Aside (SW enc w0 blk off d w) := S
 clear S
 go_enter Try.func93, Try.ntmps93
 go_wp2
 go_loopg [10] n (fun kx s10 wr => ∃ (i : Nat) (dk : Array α), s10 = .int .i64 i ∧ i ≤ n ∧ n - i ≤ kx ∧ dk.size = d0.size ∧ Aside (SW enc w0 blk off dk wr) ∧ Hid (swapFrom a b n i dk = swapFrom a b n 0 d))
 case atStart => exact ⟨0, d, rfl, by omega, by omega, hs, S0, rfl⟩
 case round =>
  clear S0
  obtain ⟨i, dk, rfl, hin, hkx, hds, S1, HE⟩ := hrel
  by_cases hlt : i < n
  ·have hltz : (i : Int) < (n : Int) := by omega
   have HE2 : Hid (swapFrom a b n (i + 1) (swp dk (a + i) (b + i)) = swapFrom a b n 0 d) := by
    have e := HE.out
    rw [swapFrom, if_pos hlt] at e
    exact e
   go_wp2_with fail
   obtain ⟨iN, hiN⟩ : ∃ q, q = a + i := ⟨_, rfl⟩
   obtain ⟨jN, hjN⟩ : ∃ q, q = b + i := ⟨_, rfl⟩
   have ea : ((a : Int) + (i : Int)).toNat = iN := by omega
   have pa : (0 : Int) ≤ (a : Int) + (i : Int) := by omega
   have ba : (a : Int) + (i : Int) < (d0.size : Int) := by omega
   have ra : IntKind.i64.wrap ((a : Int) + (i : Int)) = (a : Int) + (i : Int) := by rw [IntKind.wrap_i64]; omega
   have ec : ((b : Int) + (i : Int)).toNat = jN := by omega
   have pc : (0 : Int) ≤ (b : Int) + (i : Int) := by omega
   have bc : (b : Int) + (i : Int) < (d0.size : Int) := by omega
   have rc : IntKind.i64.wrap ((b : Int) + (i : Int)) = (b : Int) + (i : Int) := by rw [IntKind.wrap_i64]; omega
   obtain ⟨x, hx⟩ : ∃ x, x = dk[a + i]! := ⟨_, rfl⟩
   obtain ⟨y, hy⟩ : ∃ x, x = dk[b + i]! := ⟨_, rfl⟩
   have S2 : Aside (SW enc w0 blk off (swp dk (a + i) (b + i)) ((wr.setCell ⟨blk, off + iN, none⟩ (enc y)).setCell ⟨blk, off + jN, none⟩ (enc x)).drew) := by rw [hiN, hjN, hx, hy]; exact S1.out.swapped R (a + i) (b + i) (by omega) (by omega)
   have c1 := S1.out.c1 R (by omega) (a + i) (by omega)
   have c2 := S1.out.c1 R (by omega) (b + i) (by omega)
   have f1 := S1.out.f1 R (by omega) (a + i) (by omega)
   have f2 := S1.out.f1 R (by omega) (b + i) (by omega)
   obtain ⟨u, c3⟩ := S1.out.c2 R (by omega) (a + i) (b + i) (by omega) (by omega) (enc y)
   rw [← hjN, ← hiN] at c3
   rw [← hx, ← hiN] at c1
   rw [← hy, ← hjN] at c2
   rw [← hiN] at f1
   rw [← hjN] at f2
   clear S1 hx hy hiN hjN
   go_wp2_with fail
   go_big_region_o
   clear c1 c2 c3 f1 f2
   generalize ((wr.setCell ⟨blk, off + iN, none⟩ (enc y)).setCell ⟨blk, off + jN, none⟩ (enc x)).drew = w2 at S2 ⊢
   clear ea ec
   go_wp2
   go_roundg (n - (i + 1))
   case measure => omega
   case rel => exact ⟨i + 1, swp dk (a + i) (b + i), by go_num, by omega, Nat.le_refl _, by rw [size_swp]; exact hds, S2, HE2⟩
  ·have hltz : ¬ (i : Int) < (n : Int) := by omega
   go_wp2
   go_end0
   refine ⟨rfl, ?_⟩
   rw [← HE.out, swapFrom, if_neg hlt]
   exact S1.out
set_option maxHeartbeats 1000000 in
set_option maxRecDepth 1000000 in
theorem rotate_calls (enc : α → Value) (g : Nat) (cb : Array Value) (blk off cap a m b : Nat) (d0 d : Array α) (w0 w : World)
  (R : Row1 enc w0 blk off d0) (hs : d.size = d0.size) (S : SW enc w0 blk off d w) (ham : a < m) (hmb : m < b) (hb : b ≤ d0.size) (hsz : d0.size < 4611686018427387904) :
  Calls Try.prog 92 #[.slice (some ⟨blk, off, none⟩) d0.size cap, .int .i64 a, .int .i64 m, .int .i64 b, .func (.func g) #[] cb] w fun e w' => e = .returned (.tuple #[]) ∧ SW enc w0 blk off (rot m (m - a) (b - m) d) w' := by
 have S0 : Aside (SW enc w0 blk off d w) := S
 clear S
 go_enter Try.func92, Try.ntmps92
 go_wp2
 go_loopg [10, 11] (b - a) (fun kx s10 s11 wr => ∃ (i j : Nat) (dk : Array α), s10 = .int .i64 i ∧ s11 = .int .i64 j ∧ 0 < i ∧ 0 < j ∧ i ≤ m ∧ m + j ≤ d0.size ∧ i + j ≤ kx ∧ dk.size = d0.size ∧ Aside (SW enc w0 blk off dk wr) ∧ Hid (rot m i j dk = rot m (m - a) (b - m) d))
 case atStart => exact ⟨m - a, b - m, d, by rw [show ((m - a : Nat) : Int) = (m : Int) - (a : Int) by omega], by rw [show ((b - m : Nat) : Int) = (b : Int) - (m : Int) by omega], by omega, by omega, by omega, by omega, by omega, hs, S0, rfl⟩
 case round =>
  clear S0
  obtain ⟨i, j, dk, rfl, rfl, hi, hj, him, hmj, hkx, hds, S1, HE⟩ := hrel
  obtain ⟨p, hp⟩ : ∃ p, p + i = m := ⟨m - i, by omega⟩
  have em : (m : Int) - (i : Int) = (p : Int) := by omega
  by_cases e : i = j
  ·subst e
   have hne : ((i : Int) != (i : Int)) = false := by rw [bne_eq_false_iff_eq]
   have HE2 : Hid (swapFrom p m i 0 dk = rot m (m - a) (b - m) d) := by
    have e1 := HE.out
    rw [rot, dif_neg (by omega), dif_pos rfl, show m - i = p by omega] at e1
    exact e1
   clear HE hp
   go_wp2_with fail
   ((with_reducible refine (swapRange_calls enc g cb blk off cap p m i d0 dk w0 _ R hds S1.out (by omega) (by omega) hsz).mono ?_))
   rintro e' w2 ⟨rfl, S2⟩
   have S3 : Aside _ := S2
   clear S2 S1
   go_wp2
   go_end0
   refine ⟨rfl, ?_⟩
   rw [← HE2.out]
   exact S3.out
  ·have hne : ((i : Int) != (j : Int)) = true := by rw [bne_iff_ne]; omega
   by_cases c : j < i
   ·have hlt : (j : Int) < (i : Int) := by omega
    have HE2 : Hid (rot m (i - j) j (swapFrom p m j 0 dk) = rot m (m - a) (b - m) d) := by
     have e1 := HE.out
     rw [rot, dif_neg (by omega), dif_neg e, dif_pos c, show m - i = p by omega] at e1
     exact e1
    have h1 := (swapRange_spec p m j dk (by omega) (by omega)).1
    have H1 : Hid ((swapFrom p m j 0 dk).size = d0.size) := by show _ = _; rw [h1, hds]
    clear h1
    have HP : Hid (p + i = m) := hp
    have hpi : p + i ≤ m := by omega
    have hpi2 : m ≤ p + i := by omega
    clear HE hp
    go_wp2_with fail
    ((with_reducible refine (swapRange_calls enc g cb blk off cap p m j d0 dk w0 _ R hds S1.out (by omega) (by omega) hsz).mono ?_))
    rintro e' w2 ⟨rfl, S2⟩
    have S3 : Aside _ := S2
    clear S2 S1
    go_wp2
    go_roundg (i - j + j)
    case measure => omega
    case rel => exact ⟨i - j, j, _, by rw [show ((i - j : Nat) : Int) = (i : Int) - (j : Int) by omega], rfl, by omega, hj, by omega, hmj, Nat.le_refl _, H1.out, S3, HE2⟩
   ·have hlt : ¬ (j : Int) < (i : Int) := by omega
    obtain ⟨q, hq⟩ : ∃ q, q + i = m + j := ⟨m + j - i, by omega⟩
    have em2 : (m : Int) + (j : Int) - (i : Int) = (q : Int) := by omega
    have HE2 : Hid (rot m i (j - i) (swapFrom p q i 0 dk) = rot m (m - a) (b - m) d) := by
     have e1 := HE.out
     rw [rot, dif_neg (by omega), dif_neg e, dif_neg c, show m - i = p by omega, show m + j - i = q by omega] at e1
     exact e1
    have h1 := (swapRange_spec p q i dk (by omega) (by omega)).1
    have H1 : Hid ((swapFrom p q i 0 dk).size = d0.size) := by show _ = _; rw [h1, hds]
    clear h1
    have hpi : p + i ≤ m := by omega
    have hpi2 : m ≤ p + i := by omega
    have hqi : q + i ≤ m + j := by omega
    have hqi2 : m + j ≤ q + i := by omega
    clear HE hp hq
    go_wp2_with fail
    ((with_reducible refine (swapRange_calls enc g cb blk off cap p q i d0 dk w0 _ R hds S1.out (by omega) (by omega) hsz).mono ?_))
    rintro e' w2 ⟨rfl, S2⟩
    have S3 : Aside _ := S2
    clear S2 S1
    go_wp2
    go_roundg (i + (j - i))
    case measure => omega
    case rel => exact ⟨i, j - i, _, rfl, by rw [show ((j - i : Nat) : Int) = (j : Int) - (i : Int) by omega], hi, by omega, him, by omega, Nat.le_refl _, H1.out, S3, HE2⟩
end Go.Proofs.Ythmckhfjaleomaa.St
/- slices.symMergeCmpFunc at []int, its first short case: from a world of the sort's to a world of the sort's. -/
namespace Go.Proofs.Ythmckhfjaleomaa.St
open Go.Proofs Go.Shelf Go.RowKit Go.Lib Go.Sort
variable {α : Type} [Inhabited α]

set_option maxHeartbeats 1000000 in
set_option maxRecDepth 1000000 in
theorem sym_one (enc : α → Value) (cf : α → α → Int) (g : Nat) (cb : Array Value) (blk off cap a m b : Nat) (d0 d : Array α) (w0 w : World)
  (eg : ∀ args w, (callFunc g args).run Try.prog w = .ok (.enter g args) w) (hcmp : CmpLays1 Try.prog g cb enc cf blk off d0.size w0)
  (R : Row1 enc w0 blk off d0) (hs : d.size = d0.size) (S : SW enc w0 blk off d w) (ham : a + 1 = m) (hmb : m < b) (hb : b ≤ d0.size) (hsz : d0.size < 4611686018427387904) :
  Calls Try.prog 91 #[.slice (some ⟨blk, off, none⟩) d0.size cap, .int .i64 a, .int .i64 m, .int .i64 b, .func (.func g) #[] cb] w fun e w' => e = .returned (.tuple #[]) ∧ SW enc w0 blk off (shiftUp a (search (fun h => ltOf cf d[h]! d[a]!) m b) d) w' := by
 have hcl0 := R.hO.cells
 simp only [Value.cells] at hcl0
 have hst := R.hO.store Try.prog
 have mixed : Try.prog.follows .mixedOrders = true := by kernel_rfl
 have HC : Aside _ := hcmp
 have S0 : Aside (SW enc w0 blk off d w) := S
 have t1 : ((m : Int) - (a : Int) == 1) = true := by rw [beq_iff_eq]; omega
 have ham1 : a + 1 ≤ m := by omega
 have ham2 : m ≤ a + 1 := by omega
 clear S hcmp ham
 go_enter Try.func91, Try.ntmps91
 go_wp2
 go_loopg [10, 11] (b - m) (fun kx s10 s11 wr => ∃ (i j : Nat), s10 = .int .i64 i ∧ s11 = .int .i64 j ∧ m ≤ i ∧ i ≤ j ∧ j ≤ b ∧ j - i ≤ kx ∧ Aside (SW enc w0 blk off d wr) ∧ Hid (search (fun h => ltOf cf d[h]! d[a]!) i j = search (fun h => ltOf cf d[h]! d[a]!) m b))
 case atStart => exact ⟨m, b, rfl, rfl, by omega, by omega, by omega, by omega, S0, rfl⟩
 case round =>
  clear S0
  obtain ⟨i, j, rfl, rfl, hi, hij, hj, hkx, S1, HE⟩ := hrel
  by_cases hlt : i < j
  ·have hltz : (i : Int) < (j : Int) := by omega
   obtain ⟨h, hh⟩ : ∃ h, h = (i + j) / 2 := ⟨_, rfl⟩
   have eh : ((i : Int) + (j : Int)) / 2 = (h : Int) := by omega
   have hh1 : i ≤ h := by omega
   have hh2 : h < j := by omega
   have HE0 := HE.out
   rw [search, dif_pos hlt, ← hh] at HE0
   cases hlv : ltOf cf d[h]! d[a]! with
   | true =>
    have HE2 : Hid (search (fun h => ltOf cf d[h]! d[a]!) (h + 1) j = search (fun h => ltOf cf d[h]! d[a]!) m b) := by rw [if_pos hlv] at HE0; exact HE0
    clear HE HE0 hh
    obtain ⟨iN1, hiN1⟩ : ∃ q, q = h := ⟨_, rfl⟩
    obtain ⟨jN1, hjN1⟩ : ∃ q, q = a := ⟨_, rfl⟩
    have ea1 : ((h : Int)).toNat = iN1 := by omega
    have pa1 : (0 : Int) ≤ (h : Int) := by omega
    have ba1 : (h : Int) < (d0.size : Int) := by omega
    have ra1 : IntKind.i64.wrap ((h : Int)) = (h : Int) := by rw [IntKind.wrap_i64]; omega
    have ec1 : ((a : Int)).toNat = jN1 := by omega
    have pc1 : (0 : Int) ≤ (a : Int) := by omega
    have bc1 : (a : Int) < (d0.size : Int) := by omega
    have rc1 : IntKind.i64.wrap ((a : Int)) = (a : Int) := by rw [IntKind.wrap_i64]; omega
    obtain ⟨x1, hx1⟩ : ∃ x, x = d[h]! := ⟨_, rfl⟩
    obtain ⟨y1, hy1⟩ : ∃ x, x = d[a]! := ⟨_, rfl⟩
    have la1 := S1.out.cl R hs (h) (by omega)
    have lb1 := S1.out.cl R hs (a) (by omega)
    rw [← hx1, ← hiN1] at la1
    rw [← hy1, ← hjN1] at lb1
    have hc1 := S1.out.cmp HC.out hs x1 y1
    have hv1 : cf x1 y1 < 0 := by rw [hx1, hy1]; exact of_decide_eq_true hlv
    have hd1 : decide (cf x1 y1 < 0) = true := decide_eq_true hv1
    clear hx1 hy1 hiN1 hjN1
    go_wp2_with fail
    go_quiet_grown (first | (go_at_fn g; refine Calls.grown_of (hc1 _ _)))
    have S2 : Aside (SW enc w0 blk off d (grow (wr.drewN nq) osq)) := S1.out.grown nq osq
    clear la1 lb1 hc1 S1
    generalize grow (wr.drewN nq) osq = w2 at S2 ⊢
    clear nq osq
    clear ea1 ec1
    go_wp2
    go_roundg (j - (h + 1))
    case measure => omega
    case rel => exact ⟨h + 1, j, by go_num, rfl, by omega, by omega, by omega, Nat.le_refl _, S2, HE2⟩
   | false =>
    have HE2 : Hid (search (fun h => ltOf cf d[h]! d[a]!) i h = search (fun h => ltOf cf d[h]! d[a]!) m b) := by rw [if_neg (by rw [hlv]; decide)] at HE0; exact HE0
    clear HE HE0 hh
    obtain ⟨iN2, hiN2⟩ : ∃ q, q = h := ⟨_, rfl⟩
    obtain ⟨jN2, hjN2⟩ : ∃ q, q = a := ⟨_, rfl⟩
    have ea2 : ((h : Int)).toNat = iN2 := by omega
    have pa2 : (0 : Int) ≤ (h : Int) := by omega
    have ba2 : (h : Int) < (d0.size : Int) := by omega
    have ra2 : IntKind.i64.wrap ((h : Int)) = (h : Int) := by rw [IntKind.wrap_i64]; omega
    have ec2 : ((a : Int)).toNat = jN2 := by omega
    have pc2 : (0 : Int) ≤ (a : Int) := by omega
    have bc2 : (a : Int) < (d0.size : Int) := by omega
    have rc2 : IntKind.i64.wrap ((a : Int)) = (a : Int) := by rw [IntKind.wrap_i64]; omega
    obtain ⟨x2, hx2⟩ : ∃ x, x = d[h]! := ⟨_, rfl⟩
    obtain ⟨y2, hy2⟩ : ∃ x, x = d[a]! := ⟨_, rfl⟩
    have la2 := S1.out.cl R hs (h) (by omega)
    have lb2 := S1.out.cl R hs (a) (by omega)
    rw [← hx2, ← hiN2] at la2
    rw [← hy2, ← hjN2] at lb2
    have hc2 := S1.out.cmp HC.out hs x2 y2
    have hv2 : ¬ cf x2 y2 < 0 := by rw [hx2, hy2]; exact of_decide_eq_false hlv
    have hd2 : decide (cf x2 y2 < 0) = false := decide_eq_false hv2
    clear hx2 hy2 hiN2 hjN2
    go_wp2_with fail
    go_quiet_grown (first | (go_at_fn g; refine Calls.grown_of (hc2 _ _)))
    have S2 : Aside (SW enc w0 blk off d (grow (wr.drewN nq) osq)) := S1.out.grown nq osq
    clear la2 lb2 hc2 S1
    generalize grow (wr.drewN nq) osq = w2 at S2 ⊢
    clear nq osq
    clear ea2 ec2
    go_wp2
    go_roundg (h - i)
    case measure => omega
    case rel => exact ⟨i, h, rfl, rfl, by omega, by omega, by omega, Nat.le_refl _, S2, HE2⟩
  ·have hltz : ¬ (i : Int) < (j : Int) := by omega
   have HE2 : Hid (i = search (fun h => ltOf cf d[h]! d[a]!) m b) := by
    have HE0 := HE.out
    rw [search, dif_neg hlt] at HE0
    exact HE0
   clear HE
   go_wp2
   go_loopg [13] i (fun kx s13 wr2 => ∃ (k : Nat) (dk : Array α), s13 = .int .i64 k ∧ a ≤ k ∧ k < i ∧ i - k ≤ kx ∧ dk.size = d0.size ∧ Aside (SW enc w0 blk off dk wr2) ∧ Hid (shiftUp k i dk = shiftUp a i d))
   case atStart => exact ⟨a, d, rfl, by omega, by omega, by omega, hs, S1, rfl⟩
   case round =>
    clear S1
    obtain ⟨k, dk, rfl, hak, hki, hkx2, hdk, S3, HF⟩ := hrel
    by_cases hlt2 : k + 1 < i
    ·have hltz2 : (k : Int) < (i : Int) - 1 := by omega
     have HF2 : Hid (shiftUp (k + 1) i (swp dk k (k + 1)) = shiftUp a i d) := by
      have e := HF.out
      rw [shiftUp, if_pos hlt2] at e
      exact e
     clear HF
     go_wp2_with fail
     obtain ⟨iN, hiN⟩ : ∃ q, q = k := ⟨_, rfl⟩
     obtain ⟨jN, hjN⟩ : ∃ q, q = k + 1 := ⟨_, rfl⟩
     have ea : ((k : Int)).toNat = iN := by omega
     have pa : (0 : Int) ≤ (k : Int) := by omega
     have ba : (k : Int) < (d0.size : Int) := by omega
     have ra : IntKind.i64.wrap ((k : Int)) = (k : Int) := by rw [IntKind.wrap_i64]; omega
     have ec : ((k : Int) + 1).toNat = jN := by omega
     have pc : (0 : Int) ≤ (k : Int) + 1 := by omega
     have bc : (k : Int) + 1 < (d0.size : Int) := by omega
     have rc : IntKind.i64.wrap ((k : Int) + 1) = (k : Int) + 1 := by rw [IntKind.wrap_i64]; omega
     obtain ⟨x, hx⟩ : ∃ x, x = dk[k]! := ⟨_, rfl⟩
     obtain ⟨y, hy⟩ : ∃ x, x = dk[k + 1]! := ⟨_, rfl⟩
     have S4 : Aside (SW enc w0 blk off (swp dk k (k + 1)) ((wr.setCell ⟨blk, off + iN, none⟩ (enc y)).setCell ⟨blk, off + jN, none⟩ (enc x)).drew) := by rw [hiN, hjN, hx, hy]; exact S3.out.swapped R k (k + 1) (by omega) (by omega)
     have c1 := S3.out.c1 R (by omega) k (by omega)
     have c2 := S3.out.c1 R (by omega) (k + 1) (by omega)
     have f1 := S3.out.f1 R (by omega) k (by omega)
     have f2 := S3.out.f1 R (by omega) (k + 1) (by omega)
     obtain ⟨u, c3⟩ := S3.out.c2 R (by omega) k (k + 1) (by omega) (by omega) (enc y)
     rw [← hjN, ← hiN] at c3
     rw [← hx, ← hiN] at c1
     rw [← hy, ← hjN] at c2
     rw [← hiN] at f1
     rw [← hjN] at f2
     clear S3 hx hy hiN hjN
     go_wp2_with fail
     go_big_region_o
     clear c1 c2 c3 f1 f2
     generalize ((wr.setCell ⟨blk, off + iN, none⟩ (enc y)).setCell ⟨blk, off + jN, none⟩ (enc x)).drew = w2 at S4 ⊢
     clear ea ec
     go_wp2
     go_roundg (i - (k + 1))
     case measure => omega
     case rel => exact ⟨k + 1, swp dk k (k + 1), by go_num, by omega, by omega, Nat.le_refl _, by rw [size_swp]; exact hdk, S4, HF2⟩
    ·have hltz2 : ¬ (k : Int) < (i : Int) - 1 := by omega
     go_wp2
     refine bodyPost_ret (results_none rfl _ _ _) rfl ?_
     refine ⟨rfl, ?_⟩
     rw [← HE2.out, ← HF.out, shiftUp, if_neg hlt2]
     exact S3.out
end Go.Proofs.Ythmckhfjaleomaa.St
/- slices.symMergeCmpFunc at []int, its second short case: from a world of the sort's to a world of the sort's. -/
namespace Go.Proofs.Ythmckhfjaleomaa.St
open Go.Proofs Go.Shelf Go.RowKit Go.Lib Go.Sort
variable {α : Type} [Inhabited α]

set_option maxHeartbeats 2000000 in
set_option maxRecDepth 1000000 in
theorem sym_last (enc : α → Value) (cf : α → α → Int) (g : Nat) (cb : Array Value) (blk off cap a m b : Nat) (d0 d : Array α) (w0 w : World)
  (eg : ∀ args w, (callFunc g args).run Try.prog w = .ok (.enter g args) w) (hcmp : CmpLays1 Try.prog g cb enc cf blk off d0.size w0)
  (R : Row1 enc w0 blk off d0) (hs : d.size = d0.size) (S : SW enc w0 blk off d w) (ham : a + 1 < m) (hmb : m + 1 = b) (hb : b ≤ d0.size) (hsz : d0.size < 4611686018427387904) :
  Calls Try.prog 91 #[.slice (some ⟨blk, off, none⟩) d0.size cap, .int .i64 a, .int .i64 m, .int .i64 b, .func (.func g) #[] cb] w fun e w' => e = .returned (.tuple #[]) ∧ SW enc w0 blk off (shiftDown (search (fun h => !ltOf cf d[m]! d[h]!) a m) m d) w' := by
 have hcl0 := R.hO.cells
 simp only [Value.cells] at hcl0
 have hst := R.hO.store Try.prog
 have mixed : Try.prog.follows .mixedOrders = true := by kernel_rfl
 have HC : Aside _ := hcmp
 have S0 : Aside (SW enc w0 blk off d w) := S
 have t1 : ((m : Int) - (a : Int) == 1) = false := by rw [beq_eq_false_iff_ne]; omega
 have t2 : ((b : Int) - (m : Int) == 1) = true := by rw [beq_iff_eq]; omega
 have hmb1 : m + 1 ≤ b := by omega
 have hmb2 : b ≤ m + 1 := by omega
 clear S hcmp hmb
 go_enter Try.func91, Try.ntmps91
 go_wp2
 go_loopg [14, 15] (m - a) (fun kx s10 s11 wr => ∃ (i j : Nat), s10 = .int .i64 i ∧ s11 = .int .i64 j ∧ a ≤ i ∧ i ≤ j ∧ j ≤ m ∧ j - i ≤ kx ∧ Aside (SW enc w0 blk off d wr) ∧ Hid (search (fun h => !ltOf cf d[m]! d[h]!) i j = search (fun h => !ltOf cf d[m]! d[h]!) a m))
 case atStart => exact ⟨a, m, rfl, rfl, by omega, by omega, by omega, by omega, S0, rfl⟩
 case round =>
  clear S0
  obtain ⟨i, j, rfl, rfl, hi, hij, hj, hkx, S1, HE⟩ := hrel
  by_cases hlt : i < j
  ·have hltz : (i : Int) < (j : Int) := by omega
   obtain ⟨h, hh⟩ : ∃ h, h = (i + j) / 2 := ⟨_, rfl⟩
   have eh : ((i : Int) + (j : Int)) / 2 = (h : Int) := by omega
   have hh1 : i ≤ h := by omega
   have hh2 : h < j := by omega
   have HE0 := HE.out
   rw [search, dif_pos hlt, ← hh] at HE0
   cases hlv : ltOf cf d[m]! d[h]! with
   | true =>
    have HE2 : Hid (search (fun h => !ltOf cf d[m]! d[h]!) i h = search (fun h => !ltOf cf d[m]! d[h]!) a m) := by rw [if_neg (by rw [hlv]; decide)] at HE0; exact HE0
    clear HE HE0 hh
    obtain ⟨iN1, hiN1⟩ : ∃ q_, q_ = m := ⟨_, rfl⟩
    obtain ⟨jN1, hjN1⟩ : ∃ q_, q_ = h := ⟨_, rfl⟩
    have ea1 : ((m : Int)).toNat = iN1 := by first | (rw [hiN1]; first | done | exact Int.toNat_natCast _) | omega
    have pa1 : (0 : Int) ≤ (m : Int) := by omega
    have ba1 : (m : Int) < (d0.size : Int) := by omega
    have ra1 : IntKind.i64.wrap ((m : Int)) = (m : Int) := by rw [IntKind.wrap_i64]; omega
    have ec1 : ((h : Int)).toNat = jN1 := by first | (rw [hjN1]; first | done | exact Int.toNat_natCast _) | omega
    have pc1 : (0 : Int) ≤ (h : Int) := by omega
    have bc1 : (h : Int) < (d0.size : Int) := by omega
    have rc1 : IntKind.i64.wrap ((h : Int)) = (h : Int) := by rw [IntKind.wrap_i64]; omega
    obtain ⟨x1, hx1⟩ : ∃ x, x = d[m]! := ⟨_, rfl⟩
    obtain ⟨y1, hy1⟩ : ∃ x, x = d[h]! := ⟨_, rfl⟩
    have la1 := S1.out.cl R hs (m) (by omega)
    have lb1 := S1.out.cl R hs (h) (by omega)
    rw [← hx1, ← hiN1] at la1
    rw [← hy1, ← hjN1] at lb1
    have hc1 := S1.out.cmp HC.out hs x1 y1
    have hv1 : cf x1 y1 < 0 := by rw [hx1, hy1]; exact of_decide_eq_true hlv
    have hd1 : decide (cf x1 y1 < 0) = true := decide_eq_true hv1
    clear hx1 hy1 hiN1 hjN1
    go_wp2_with fail
    go_quiet_grown (first | (go_at_fn g; refine Calls.grown_of (hc1 _ _)))
    have S2 : Aside (SW enc w0 blk off d (grow (wr.drewN nq) osq)) := S1.out.grown nq osq
    clear la1 lb1 hc1 S1
    generalize grow (wr.drewN nq) osq = w2 at S2 ⊢
    clear nq osq
    clear ea1 ec1
    go_wp2
    go_roundg (h - i)
    case measure => omega
    case rel => exact ⟨i, h, rfl, rfl, by omega, by omega, by omega, Nat.le_refl _, S2, HE2⟩
   | false =>
    have HE2 : Hid (search (fun h => !ltOf cf d[m]! d[h]!) (h + 1) j = search (fun h => !ltOf cf d[m]! d[h]!) a m) := by rw [if_pos (by rw [hlv]; rfl)] at HE0; exact HE0
    clear HE HE0 hh
    obtain ⟨iN2, hiN2⟩ : ∃ q_, q_ = m := ⟨_, rfl⟩
    obtain ⟨jN2, hjN2⟩ : ∃ q_, q_ = h := ⟨_, rfl⟩
    have ea2 : ((m : Int)).toNat = iN2 := by first | (rw [hiN2]; first | done | exact Int.toNat_natCast _) | omega
    have pa2 : (0 : Int) ≤ (m : Int) := by omega
    have ba2 : (m : Int) < (d0.size : Int) := by omega
    have ra2 : IntKind.i64.wrap ((m : Int)) = (m : Int) := by rw [IntKind.wrap_i64]; omega
    have ec2 : ((h : Int)).toNat = jN2 := by first | (rw [hjN2]; first | done | exact Int.toNat_natCast _) | omega
    have pc2 : (0 : Int) ≤ (h : Int) := by omega
    have bc2 : (h : Int) < (d0.size : Int) := by omega
    have rc2 : IntKind.i64.wrap ((h : Int)) = (h : Int) := by rw [IntKind.wrap_i64]; omega
    obtain ⟨x2, hx2⟩ : ∃ x, x = d[m]! := ⟨_, rfl⟩
    obtain ⟨y2, hy2⟩ : ∃ x, x = d[h]! := ⟨_, rfl⟩
    have la2 := S1.out.cl R hs (m) (by omega)
    have lb2 := S1.out.cl R hs (h) (by omega)
    rw [← hx2, ← hiN2] at la2
    rw [← hy2, ← hjN2] at lb2
    have hc2 := S1.out.cmp HC.out hs x2 y2
    have hv2 : ¬ cf x2 y2 < 0 := by rw [hx2, hy2]; exact of_decide_eq_false hlv
    have hd2 : decide (cf x2 y2 < 0) = false := decide_eq_false hv2
    clear hx2 hy2 hiN2 hjN2
    go_wp2_with fail
    go_quiet_grown (first | (go_at_fn g; refine Calls.grown_of (hc2 _ _)))
    have S2 : Aside (SW enc w0 blk off d (grow (wr.drewN nq) osq)) := S1.out.grown nq osq
    clear la2 lb2 hc2 S1
    generalize grow (wr.drewN nq) osq = w2 at S2 ⊢
    clear nq osq
    clear ea2 ec2
    go_wp2
    go_roundg (j - (h + 1))
    case measure => omega
    case rel => exact ⟨h + 1, j, by go_num, rfl, by omega, by omega, by omega, Nat.le_refl _, S2, HE2⟩
  ·have hltz : ¬ (i : Int) < (j : Int) := by omega
   have HE2 : Hid (i = search (fun h => !ltOf cf d[m]! d[h]!) a m) := by
    have HE0 := HE.out
    rw [search, dif_neg hlt] at HE0
    exact HE0
   clear HE
   go_wp2
   go_loopg [17] m (fun kx s13 wr2 => ∃ (k : Nat) (dk : Array α), s13 = .int .i64 k ∧ i ≤ k ∧ k ≤ m ∧ k ≤ kx ∧ dk.size = d0.size ∧ Aside (SW enc w0 blk off dk wr2) ∧ Hid (shiftDown i k dk = shiftDown i m d))
   case atStart => exact ⟨m, d, rfl, by omega, by omega, by omega, hs, S1, rfl⟩
   case round =>
    clear S1
    obtain ⟨k, dk, rfl, hak, hki, hkx2, hdk, S3, HF⟩ := hrel
    by_cases hlt2 : i < k
    ·have hltz2 : (i : Int) < (k : Int) := by omega
     obtain ⟨p, rfl⟩ : ∃ p, k = p + 1 := ⟨k - 1, by omega⟩
     have HF2 : Hid (shiftDown i p (swp dk (p + 1) p) = shiftDown i m d) := by
      have e := HF.out
      rw [shiftDown, if_pos hlt2] at e
      exact e
     clear HF
     go_wp2_with fail
     obtain ⟨iN, hiN⟩ : ∃ q_, q_ = p + 1 := ⟨_, rfl⟩
     obtain ⟨jN, hjN⟩ : ∃ q_, q_ = p := ⟨_, rfl⟩
     have ea : ((p : Int) + 1).toNat = iN := by first | (rw [hiN]; first | done | exact Int.toNat_natCast _) | omega
     have pa : (0 : Int) ≤ (p : Int) + 1 := by omega
     have ba : (p : Int) + 1 < (d0.size : Int) := by omega
     have ra : IntKind.i64.wrap ((p : Int) + 1) = (p : Int) + 1 := by rw [IntKind.wrap_i64]; omega
     have ec : ((p : Int)).toNat = jN := by first | (rw [hjN]; first | done | exact Int.toNat_natCast _) | omega
     have pc : (0 : Int) ≤ (p : Int) := by omega
     have bc : (p : Int) < (d0.size : Int) := by omega
     have rc : IntKind.i64.wrap ((p : Int)) = (p : Int) := by rw [IntKind.wrap_i64]; omega
     obtain ⟨x, hx⟩ : ∃ x, x = dk[p + 1]! := ⟨_, rfl⟩
     obtain ⟨y, hy⟩ : ∃ x, x = dk[p]! := ⟨_, rfl⟩
     have S4 : Aside (SW enc w0 blk off (swp dk (p + 1) (p)) ((wr.setCell ⟨blk, off + iN, none⟩ (enc y)).setCell ⟨blk, off + jN, none⟩ (enc x)).drew) := by rw [hiN, hjN, hx, hy]; exact S3.out.swapped R (p + 1) (p) (by omega) (by omega)
     have c1 := S3.out.c1 R (by omega) (p + 1) (by omega)
     have c2 := S3.out.c1 R (by omega) (p) (by omega)
     have f1 := S3.out.f1 R (by omega) (p + 1) (by omega)
     have f2 := S3.out.f1 R (by omega) (p) (by omega)
     obtain ⟨u, c3⟩ := S3.out.c2 R (by omega) (p + 1) (p) (by omega) (by omega) (enc y)
     rw [← hiN, ← hjN] at c3
     rw [← hx, ← hiN] at c1
     rw [← hy, ← hjN] at c2
     rw [← hiN] at f1
     rw [← hjN] at f2
     clear S3 hx hy hiN hjN
     go_wp2_with fail
     go_big_region_o
     clear c1 c2 c3 f1 f2
     generalize ((wr.setCell ⟨blk, off + iN, none⟩ (enc y)).setCell ⟨blk, off + jN, none⟩ (enc x)).drew = w2 at S4 ⊢
     clear ea ec
     go_wp2
     go_roundg p
     case measure => omega
     case rel => exact ⟨p, swp dk (p + 1) p, by first | rfl | go_num, by omega, by omega, Nat.le_refl _, by rw [size_swp]; exact hdk, S4, HF2⟩
    ·have hltz2 : ¬ (i : Int) < (k : Int) := by omega
     go_wp2
     refine bodyPost_ret (results_none rfl _ _ _) rfl ?_
     refine ⟨rfl, ?_⟩
     have e : shiftDown i k dk = dk := by
      cases k with
      | zero => rw [shiftDown]
      | succ k => rw [shiftDown, if_neg hlt2]
     rw [← HE2.out, ← HF.out, e]
     exact S3.out
end Go.Proofs.Ythmckhfjaleomaa.St
/- slices.symMergeCmpFunc at []int, the way by halves: from a world of the sort's to a world of the sort's. -/
namespace Go.Proofs.Ythmckhfjaleomaa.St
open Go.Proofs Go.Shelf Go.RowKit Go.Lib Go.Sort
variable {α : Type} [Inhabited α]

set_option maxHeartbeats 4000000 in
set_option maxRecDepth 1000000 in
theorem sym_hi (enc : α → Value) (cf : α → α → Int) (g : Nat) (cb : Array Value) (blk off cap f a m b : Nat) (d0 d : Array α) (w0 w : World)
  (eg : ∀ args w, (callFunc g args).run Try.prog w = .ok (.enter g args) w) (hcmp : CmpLays1 Try.prog g cb enc cf blk off d0.size w0)
  (R : Row1 enc w0 blk off d0) (hs : d.size = d0.size) (S : SW enc w0 blk off d w) (hf : b - a ≤ f + 1) (ham : a + 1 < m) (hmb : m + 1 < b) (hb : b ≤ d0.size) (hsz : d0.size < 4611686018427387904)
  (ih : ∀ (a m b : Nat) (d : Array α) (w : World), b - a ≤ f → a < m → m < b → b ≤ d0.size → d.size = d0.size → SW enc w0 blk off d w →
   Calls Try.prog 91 #[.slice (some ⟨blk, off, none⟩) d0.size cap, .int .i64 a, .int .i64 m, .int .i64 b, .func (.func g) #[] cb] w fun e w' => e = .returned (.tuple #[]) ∧ SW enc w0 blk off (symMerge (ltOf cf) f d a m b) w')
  (hmid : (a + b) / 2 < m) :
  Calls Try.prog 91 #[.slice (some ⟨blk, off, none⟩) d0.size cap, .int .i64 a, .int .i64 m, .int .i64 b, .func (.func g) #[] cb] w fun e w' => e = .returned (.tuple #[]) ∧ SW enc w0 blk off (symMerge (ltOf cf) (f + 1) d a m b) w' := by
 have hcl0 := R.hO.cells
 simp only [Value.cells] at hcl0
 have hst := R.hO.store Try.prog
 have mixed : Try.prog.follows .mixedOrders = true := by kernel_rfl
 have HC : Aside _ := hcmp
 have IH : Aside _ := ih
 have S0 : Aside (SW enc w0 blk off d w) := S
 have t1 : ((m : Int) - (a : Int) == 1) = false := by rw [beq_eq_false_iff_ne]; omega
 have t2 : ((b : Int) - (m : Int) == 1) = false := by rw [beq_eq_false_iff_ne]; omega
 obtain ⟨mid, hmd⟩ : ∃ mid, mid = (a + b) / 2 := ⟨_, rfl⟩
 have em : ((a : Int) + (b : Int)) / 2 = (mid : Int) := by omega
 rw [← hmd] at hmid
 have hm1 : a < mid := by omega
 have hm2 : mid < b := by omega
 have hm3 : mid + mid ≤ a + b := by omega
 have hm4 : a + b ≤ mid + mid + 1 := by omega
 obtain ⟨pp, hpp⟩ : ∃ pp, pp + 1 = mid + m := ⟨mid + m - 1, by omega⟩
 have ep : (mid : Int) + (m : Int) - 1 = (pp : Int) := by omega
 obtain ⟨s0, hs0⟩ : ∃ s0, s0 + b = mid + m := ⟨mid + m - b, by omega⟩
 have es : (mid : Int) + (m : Int) - (b : Int) = (s0 : Int) := by omega
 have hsb : s0 + b ≤ mid + m := by omega
 have hsb2 : mid + m ≤ s0 + b := by omega
 have hmz : (mid : Int) < (m : Int) := by omega
 have hst0 : Hid (search (fun c => !ltOf cf d[pp - c]! d[c]!) s0 mid = symStart (ltOf cf) d a m b) := by
  show _ = _
  rw [symStart, ← hmd, if_pos hmid, if_pos hmid, show mid + m - b = s0 by omega, show mid + m - 1 = pp by omega]
 have hres : Hid (symMerge (ltOf cf) (f + 1) d a m b =
   (if mid < mid + m - symStart (ltOf cf) d a m b ∧ mid + m - symStart (ltOf cf) d a m b < b then
    symMerge (ltOf cf) f (if a < symStart (ltOf cf) d a m b ∧ symStart (ltOf cf) d a m b < mid then symMerge (ltOf cf) f (symRot d (symStart (ltOf cf) d a m b) m (mid + m - symStart (ltOf cf) d a m b)) a (symStart (ltOf cf) d a m b) mid else symRot d (symStart (ltOf cf) d a m b) m (mid + m - symStart (ltOf cf) d a m b)) mid (mid + m - symStart (ltOf cf) d a m b) b
   else (if a < symStart (ltOf cf) d a m b ∧ symStart (ltOf cf) d a m b < mid then symMerge (ltOf cf) f (symRot d (symStart (ltOf cf) d a m b) m (mid + m - symStart (ltOf cf) d a m b)) a (symStart (ltOf cf) d a m b) mid else symRot d (symStart (ltOf cf) d a m b) m (mid + m - symStart (ltOf cf) d a m b)))) := by
  show _ = _
  rw [symMerge, if_neg (by omega), if_neg (by omega), ← hmd]
 have hpp1 : pp + 1 ≤ mid + m := by omega
 have hpp2 : mid + m ≤ pp + 1 := by omega
 clear S hcmp ih hmd hpp hs0
 go_enter Try.func91, Try.ntmps91
 go_wp2
 go_loopg [20, 21] (mid - s0) (fun kx s10 s11 wr => ∃ (i j : Nat), s10 = .int .i64 i ∧ s11 = .int .i64 j ∧ s0 ≤ i ∧ i ≤ j ∧ j ≤ mid ∧ j - i ≤ kx ∧ Aside (SW enc w0 blk off d wr) ∧ Hid (search (fun c => !ltOf cf d[pp - c]! d[c]!) i j = search (fun c => !ltOf cf d[pp - c]! d[c]!) s0 mid))
 case atStart => exact ⟨s0, mid, rfl, rfl, by omega, by omega, by omega, by omega, S0, rfl⟩
 case round =>
  clear S0
  obtain ⟨i, j, rfl, rfl, hi, hij, hj, hkx, S1, HE⟩ := hrel
  by_cases hlt : i < j
  ·have hltz : (i : Int) < (j : Int) := by omega
   obtain ⟨h, hh⟩ : ∃ h, h = (i + j) / 2 := ⟨_, rfl⟩
   have eh : ((i : Int) + (j : Int)) / 2 = (h : Int) := by omega
   have hh1 : i ≤ h := by omega
   have hh2 : h < j := by omega
   obtain ⟨q, hq⟩ : ∃ q, q + h = pp := ⟨pp - h, by omega⟩
   have eq : (pp : Int) - (h : Int) = (q : Int) := by omega
   have hqp : pp - h = q := by omega
   have hq1 : q < d0.size := by omega
   have HE0 := HE.out
   rw [search, dif_pos hlt, ← hh, hqp] at HE0
   clear hqp hq
   cases hlv : ltOf cf d[q]! d[h]! with
   | true =>
    have HE2 : Hid (search (fun c => !ltOf cf d[pp - c]! d[c]!) i h = search (fun c => !ltOf cf d[pp - c]! d[c]!) s0 mid) := by rw [if_neg (by rw [hlv]; decide)] at HE0; exact HE0
    clear HE HE0 hh
    obtain ⟨iN1, hiN1⟩ : ∃ q_, q_ = q := ⟨_, rfl⟩
    obtain ⟨jN1, hjN1⟩ : ∃ q_, q_ = h := ⟨_, rfl⟩
    have ea1 : ((q : Int)).toNat = iN1 := by first | (rw [hiN1]; first | done | exact Int.toNat_natCast _) | omega
    have pa1 : (0 : Int) ≤ (q : Int) := by omega
    have ba1 : (q : Int) < (d0.size : Int) := by omega
    have ra1 : IntKind.i64.wrap ((q : Int)) = (q : Int) := by rw [IntKind.wrap_i64]; omega
    have ec1 : ((h : Int)).toNat = jN1 := by first | (rw [hjN1]; first | done | exact Int.toNat_natCast _) | omega
    have pc1 : (0 : Int) ≤ (h : Int) := by omega
    have bc1 : (h : Int) < (d0.size : Int) := by omega
    have rc1 : IntKind.i64.wrap ((h : Int)) = (h : Int) := by rw [IntKind.wrap_i64]; omega
    obtain ⟨x1, hx1⟩ : ∃ x, x = d[q]! := ⟨_, rfl⟩
    obtain ⟨y1, hy1⟩ : ∃ x, x = d[h]! := ⟨_, rfl⟩
    have la1 := S1.out.cl R hs (q) (by omega)
    have lb1 := S1.out.cl R hs (h) (by omega)
    rw [← hx1, ← hiN1] at la1
    rw [← hy1, ← hjN1] at lb1
    have hc1 := S1.out.cmp HC.out hs x1 y1
    have hv1 : cf x1 y1 < 0 := by rw [hx1, hy1]; exact of_decide_eq_true hlv
    have hd1 : decide (cf x1 y1 < 0) = true := decide_eq_true hv1
    clear hx1 hy1 hiN1 hjN1
    go_wp2_with fail
    go_quiet_grown (first | (go_at_fn g; refine Calls.grown_of (hc1 _ _)))
    have S2 : Aside (SW enc w0 blk off d (grow (wr.drewN nq) osq)) := S1.out.grown nq osq
    clear la1 lb1 hc1 S1
    generalize grow (wr.drewN nq) osq = w2 at S2 ⊢
    clear nq osq
    clear ea1 ec1
    go_wp2
    go_roundg (h - i)
    case measure => omega
    case rel => exact ⟨i, h, rfl, rfl, by omega, by omega, by omega, Nat.le_refl _, S2, HE2⟩
   | false =>
    have HE2 : Hid (search (fun c => !ltOf cf d[pp - c]! d[c]!) (h + 1) j = search (fun c => !ltOf cf d[pp - c]! d[c]!) s0 mid) := by rw [if_pos (by rw [hlv]; rfl)] at HE0; exact HE0
    clear HE HE0 hh
    obtain ⟨iN2, hiN2⟩ : ∃ q_, q_ = q := ⟨_, rfl⟩
    obtain ⟨jN2, hjN2⟩ : ∃ q_, q_ = h := ⟨_, rfl⟩
    have ea2 : ((q : Int)).toNat = iN2 := by first | (rw [hiN2]; first | done | exact Int.toNat_natCast _) | omega
    have pa2 : (0 : Int) ≤ (q : Int) := by omega
    have ba2 : (q : Int) < (d0.size : Int) := by omega
    have ra2 : IntKind.i64.wrap ((q : Int)) = (q : Int) := by rw [IntKind.wrap_i64]; omega
    have ec2 : ((h : Int)).toNat = jN2 := by first | (rw [hjN2]; first | done | exact Int.toNat_natCast _) | omega
    have pc2 : (0 : Int) ≤ (h : Int) := by omega
    have bc2 : (h : Int) < (d0.size : Int) := by omega
    have rc2 : IntKind.i64.wrap ((h : Int)) = (h : Int) := by rw [IntKind.wrap_i64]; omega
    obtain ⟨x2, hx2⟩ : ∃ x, x = d[q]! := ⟨_, rfl⟩
    obtain ⟨y2, hy2⟩ : ∃ x, x = d[h]! := ⟨_, rfl⟩
    have la2 := S1.out.cl R hs (q) (by omega)
    have lb2 := S1.out.cl R hs (h) (by omega)
    rw [← hx2, ← hiN2] at la2
    rw [← hy2, ← hjN2] at lb2
    have hc2 := S1.out.cmp HC.out hs x2 y2
    have hv2 : ¬ cf x2 y2 < 0 := by rw [hx2, hy2]; exact of_decide_eq_false hlv
    have hd2 : decide (cf x2 y2 < 0) = false := decide_eq_false hv2
    clear hx2 hy2 hiN2 hjN2
    go_wp2_with fail
    go_quiet_grown (first | (go_at_fn g; refine Calls.grown_of (hc2 _ _)))
    have S2 : Aside (SW enc w0 blk off d (grow (wr.drewN nq) osq)) := S1.out.grown nq osq
    clear la2 lb2 hc2 S1
    generalize grow (wr.drewN nq) osq = w2 at S2 ⊢
    clear nq osq
    clear ea2 ec2
    go_wp2
    go_roundg (j - (h + 1))
    case measure => omega
    case rel => exact ⟨h + 1, j, by go_num, rfl, by omega, by omega, by omega, Nat.le_refl _, S2, HE2⟩
  ·have hltz : ¬ (i : Int) < (j : Int) := by omega
   have HE2 : Hid (i = symStart (ltOf cf) d a m b) := by
    have HE0 := HE.out
    rw [search, dif_neg hlt] at HE0
    rw [HE0]
    exact hst0.out
   have HR : Hid _ := hres.out
   rw [← HE2.out] at HR
   clear HE hst0 hres HE2
   obtain ⟨e, he⟩ : ∃ e, e + i = mid + m := ⟨mid + m - i, by omega⟩
   have ee : (mid : Int) + (m : Int) - (i : Int) = (e : Int) := by omega
   rw [show mid + m - i = e by omega] at HR
   have b1 : m ≤ e := by omega
   have b2 : e ≤ b := by omega
   have b3 : i ≤ m := by omega
   have b4 : i ≤ mid := by omega
   have b5 : e + i ≤ mid + m := by omega
   have b6 : mid + m ≤ e + i := by omega
   clear he
   by_cases q0 : i < m
   ·skip
    by_cases q2 : i < mid
    ·skip
     have z1 : (i : Int) < (m : Int) := by omega
     have z1d : decide ((i : Int) < (m : Int)) = true := decide_eq_true z1
     have z0 : (m : Int) < (e : Int) := by omega
     have z0d : decide ((m : Int) < (e : Int)) = true := decide_eq_true z0
     go_wp2_with fail
     ((with_reducible refine (rotate_calls enc g cb blk off cap i m e d0 d w0 _ R hs S1.out (by omega) (by omega) (by omega) hsz).mono ?_))
     rintro e' w3 ⟨rfl, T3⟩
     have S3 : Aside (SW enc w0 blk off (rot m (m - i) (e - m) d) w3) := T3
     clear T3 S1
     have z2 : (i : Int) < (mid : Int) := by omega
     have z2d : decide ((i : Int) < (mid : Int)) = true := decide_eq_true z2
     by_cases q15 : a < i
     ·skip
      have z3 : (a : Int) < (i : Int) := by omega
      have z3d : decide ((a : Int) < (i : Int)) = true := decide_eq_true z3
      go_wp2_with fail
      ((with_reducible refine (IH.out a i mid (rot m (m - i) (e - m) d) _ (by omega) (by omega) (by omega) (by omega) (by rw [size_rot _ _ _ _ _ rfl]; exact hs) S3.out).mono ?_))
      rintro e' w4 ⟨rfl, T4⟩
      have S4 : Aside (SW enc w0 blk off (symMerge (ltOf cf) f (rot m (m - i) (e - m) d) a i mid) w4) := T4
      clear T4 S3
      have z5 : (mid : Int) < (e : Int) := by omega
      have z5d : decide ((mid : Int) < (e : Int)) = true := decide_eq_true z5
      by_cases q26 : e < b
      ·skip
       have z4 : (e : Int) < (b : Int) := by omega
       have z4d : decide ((e : Int) < (b : Int)) = true := decide_eq_true z4
       go_wp2_with fail
       ((with_reducible refine (IH.out mid e b (symMerge (ltOf cf) f (rot m (m - i) (e - m) d) a i mid) _ (by omega) (by omega) (by omega) (by omega) (by rw [size_symMerge]; exact (by rw [size_rot _ _ _ _ _ rfl]; exact hs)) S4.out).mono ?_))
       rintro e' w5 ⟨rfl, T5⟩
       have S5 : Aside (SW enc w0 blk off (symMerge (ltOf cf) f (symMerge (ltOf cf) f (rot m (m - i) (e - m) d) a i mid) mid e b) w5) := T5
       clear T5 S4
       go_wp2
       go_end0
       refine ⟨rfl, ?_⟩
       have hr := HR.out
       rw [if_pos (show mid < e ∧ e < b from ⟨by omega, by omega⟩), if_pos (show a < i ∧ i < mid from ⟨by omega, by omega⟩), symRot, if_pos (show i < m ∧ m < e from ⟨by omega, by omega⟩)] at hr
       rw [hr]
       exact S5.out
      ·skip
       have z4 : ¬ (e : Int) < (b : Int) := by omega
       have z4d : decide ((e : Int) < (b : Int)) = false := decide_eq_false z4
       go_wp2
       go_end0
       refine ⟨rfl, ?_⟩
       have hr := HR.out
       rw [if_neg (show ¬ (mid < e ∧ e < b) by omega), if_pos (show a < i ∧ i < mid from ⟨by omega, by omega⟩), symRot, if_pos (show i < m ∧ m < e from ⟨by omega, by omega⟩)] at hr
       rw [hr]
       exact S4.out
     ·skip
      have z3 : ¬ (a : Int) < (i : Int) := by omega
      have z3d : decide ((a : Int) < (i : Int)) = false := decide_eq_false z3
      have z5 : (mid : Int) < (e : Int) := by omega
      have z5d : decide ((mid : Int) < (e : Int)) = true := decide_eq_true z5
      by_cases q57 : e < b
      ·skip
       have z4 : (e : Int) < (b : Int) := by omega
       have z4d : decide ((e : Int) < (b : Int)) = true := decide_eq_true z4
       go_wp2_with fail
       ((with_reducible refine (IH.out mid e b (rot m (m - i) (e - m) d) _ (by omega) (by omega) (by omega) (by omega) (by rw [size_rot _ _ _ _ _ rfl]; exact hs) S3.out).mono ?_))
       rintro e' w5 ⟨rfl, T5⟩
       have S5 : Aside (SW enc w0 blk off (symMerge (ltOf cf) f (rot m (m - i) (e - m) d) mid e b) w5) := T5
       clear T5 S3
       go_wp2
       go_end0
       refine ⟨rfl, ?_⟩
       have hr := HR.out
       rw [if_pos (show mid < e ∧ e < b from ⟨by omega, by omega⟩), if_neg (show ¬ (a < i ∧ i < mid) by omega), symRot, if_pos (show i < m ∧ m < e from ⟨by omega, by omega⟩)] at hr
       rw [hr]
       exact S5.out
      ·skip
       have z4 : ¬ (e : Int) < (b : Int) := by omega
       have z4d : decide ((e : Int) < (b : Int)) = false := decide_eq_false z4
       go_wp2
       go_end0
       refine ⟨rfl, ?_⟩
       have hr := HR.out
       rw [if_neg (show ¬ (mid < e ∧ e < b) by omega), if_neg (show ¬ (a < i ∧ i < mid) by omega), symRot, if_pos (show i < m ∧ m < e from ⟨by omega, by omega⟩)] at hr
       rw [hr]
       exact S3.out
    ·skip
     have z1 : (i : Int) < (m : Int) := by omega
     have z1d : decide ((i : Int) < (m : Int)) = true := decide_eq_true z1
     have z0 : ¬ (m : Int) < (e : Int) := by omega
     have z0d : decide ((m : Int) < (e : Int)) = false := decide_eq_false z0
     have z2 : ¬ (i : Int) < (mid : Int) := by omega
     have z2d : decide ((i : Int) < (mid : Int)) = false := decide_eq_false z2
     by_cases q90 : a < i
     ·skip
      have z3 : (a : Int) < (i : Int) := by omega
      have z3d : decide ((a : Int) < (i : Int)) = true := decide_eq_true z3
      have z5 : (mid : Int) < (e : Int) := by omega
      have z5d : decide ((mid : Int) < (e : Int)) = true := decide_eq_true z5
      by_cases q96 : e < b
      ·skip
       have z4 : (e : Int) < (b : Int) := by omega
       have z4d : decide ((e : Int) < (b : Int)) = true := decide_eq_true z4
       go_wp2_with fail
       ((with_reducible refine (IH.out mid e b d _ (by omega) (by omega) (by omega) (by omega) hs S1.out).mono ?_))
       rintro e' w5 ⟨rfl, T5⟩
       have S5 : Aside (SW enc w0 blk off (symMerge (ltOf cf) f d mid e b) w5) := T5
       clear T5 S1
       go_wp2
       go_end0
       refine ⟨rfl, ?_⟩
       have hr := HR.out
       rw [if_pos (show mid < e ∧ e < b from ⟨by omega, by omega⟩), if_neg (show ¬ (a < i ∧ i < mid) by omega), symRot, if_neg (show ¬ (i < m ∧ m < e) by omega)] at hr
       rw [hr]
       exact S5.out
      ·skip
       have z4 : ¬ (e : Int) < (b : Int) := by omega
       have z4d : decide ((e : Int) < (b : Int)) = false := decide_eq_false z4
       go_wp2
       go_end0
       refine ⟨rfl, ?_⟩
       have hr := HR.out
       rw [if_neg (show ¬ (mid < e ∧ e < b) by omega), if_neg (show ¬ (a < i ∧ i < mid) by omega), symRot, if_neg (show ¬ (i < m ∧ m < e) by omega)] at hr
       rw [hr]
       exact S1.out
     ·skip
      have z3 : ¬ (a : Int) < (i : Int) := by omega
      have z3d : decide ((a : Int) < (i : Int)) = false := decide_eq_false z3
      have z5 : (mid : Int) < (e : Int) := by omega
      have z5d : decide ((mid : Int) < (e : Int)) = true := decide_eq_true z5
      by_cases q127 : e < b
      ·skip
       have z4 : (e : Int) < (b : Int) := by omega
       have z4d : decide ((e : Int) < (b : Int)) = true := decide_eq_true z4
       go_wp2_with fail
       ((with_reducible refine (IH.out mid e b d _ (by omega) (by omega) (by omega) (by omega) hs S1.out).mono ?_))
       rintro e' w5 ⟨rfl, T5⟩
       have S5 : Aside (SW enc w0 blk off (symMerge (ltOf cf) f d mid e b) w5) := T5
       clear T5 S1
       go_wp2
       go_end0
       refine ⟨rfl, ?_⟩
       have hr := HR.out
       rw [if_pos (show mid < e ∧ e < b from ⟨by omega, by omega⟩), if_neg (show ¬ (a < i ∧ i < mid) by omega), symRot, if_neg (show ¬ (i < m ∧ m < e) by omega)] at hr
       rw [hr]
       exact S5.out
      ·skip
       have z4 : ¬ (e : Int) < (b : Int) := by omega
       have z4d : decide ((e : Int) < (b : Int)) = false := decide_eq_false z4
       go_wp2
       go_end0
       refine ⟨rfl, ?_⟩
       have hr := HR.out
       rw [if_neg (show ¬ (mid < e ∧ e < b) by omega), if_neg (show ¬ (a < i ∧ i < mid) by omega), symRot, if_neg (show ¬ (i < m ∧ m < e) by omega)] at hr
       rw [hr]
       exact S1.out
   ·skip
    exfalso; omega

end Go.Proofs.Ythmckhfjaleomaa.St
/- slices.symMergeCmpFunc at []int, the way by halves, the other side: from a world of the sort's to a world of the sort's. -/
namespace Go.Proofs.Ythmckhfjaleomaa.St
open Go.Proofs Go.Shelf Go.RowKit Go.Lib Go.Sort
variable {α : Type} [Inhabited α]

set_option maxHeartbeats 4000000 in
set_option maxRecDepth 1000000 in
theorem sym_lo (enc : α → Value) (cf : α → α → Int) (g : Nat) (cb : Array Value) (blk off cap f a m b : Nat) (d0 d : Array α) (w0 w : World)
  (eg : ∀ args w, (callFunc g args).run Try.prog w = .ok (.enter g args) w) (hcmp : CmpLays1 Try.prog g cb enc cf blk off d0.size w0)
  (R : Row1 enc w0 blk off d0) (hs : d.size = d0.size) (S : SW enc w0 blk off d w) (hf : b - a ≤ f + 1) (ham : a + 1 < m) (hmb : m + 1 < b) (hb : b ≤ d0.size) (hsz : d0.size < 4611686018427387904)
  (ih : ∀ (a m b : Nat) (d : Array α) (w : World), b - a ≤ f → a < m → m < b → b ≤ d0.size → d.size = d0.size → SW enc w0 blk off d w →
   Calls Try.prog 91 #[.slice (some ⟨blk, off, none⟩) d0.size cap, .int .i64 a, .int .i64 m, .int .i64 b, .func (.func g) #[] cb] w fun e w' => e = .returned (.tuple #[]) ∧ SW enc w0 blk off (symMerge (ltOf cf) f d a m b) w')
  (hmid : m ≤ (a + b) / 2) :
  Calls Try.prog 91 #[.slice (some ⟨blk, off, none⟩) d0.size cap, .int .i64 a, .int .i64 m, .int .i64 b, .func (.func g) #[] cb] w fun e w' => e = .returned (.tuple #[]) ∧ SW enc w0 blk off (symMerge (ltOf cf) (f + 1) d a m b) w' := by
 have hcl0 := R.hO.cells
 simp only [Value.cells] at hcl0
 have hst := R.hO.store Try.prog
 have mixed : Try.prog.follows .mixedOrders = true := by kernel_rfl
 have HC : Aside _ := hcmp
 have IH : Aside _ := ih
 have S0 : Aside (SW enc w0 blk off d w) := S
 have t1 : ((m : Int) - (a : Int) == 1) = false := by rw [beq_eq_false_iff_ne]; omega
 have t2 : ((b : Int) - (m : Int) == 1) = false := by rw [beq_eq_false_iff_ne]; omega
 obtain ⟨mid, hmd⟩ : ∃ mid, mid = (a + b) / 2 := ⟨_, rfl⟩
 have em : ((a : Int) + (b : Int)) / 2 = (mid : Int) := by omega
 rw [← hmd] at hmid
 have hm1 : a < mid := by omega
 have hm2 : mid < b := by omega
 have hm3 : mid + mid ≤ a + b := by omega
 have hm4 : a + b ≤ mid + mid + 1 := by omega
 obtain ⟨pp, hpp⟩ : ∃ pp, pp + 1 = mid + m := ⟨mid + m - 1, by omega⟩
 have ep : (mid : Int) + (m : Int) - 1 = (pp : Int) := by omega
 have hmz : ¬ (mid : Int) < (m : Int) := by omega
 have hst0 : Hid (search (fun c => !ltOf cf d[pp - c]! d[c]!) a m = symStart (ltOf cf) d a m b) := by
  show _ = _
  rw [symStart, ← hmd, if_neg (by omega), if_neg (by omega), show mid + m - 1 = pp by omega]
 have hres : Hid (symMerge (ltOf cf) (f + 1) d a m b =
   (if mid < mid + m - symStart (ltOf cf) d a m b ∧ mid + m - symStart (ltOf cf) d a m b < b then
    symMerge (ltOf cf) f (if a < symStart (ltOf cf) d a m b ∧ symStart (ltOf cf) d a m b < mid then symMerge (ltOf cf) f (symRot d (symStart (ltOf cf) d a m b) m (mid + m - symStart (ltOf cf) d a m b)) a (symStart (ltOf cf) d a m b) mid else symRot d (symStart (ltOf cf) d a m b) m (mid + m - symStart (ltOf cf) d a m b)) mid (mid + m - symStart (ltOf cf) d a m b) b
   else (if a < symStart (ltOf cf) d a m b ∧ symStart (ltOf cf) d a m b < mid then symMerge (ltOf cf) f (symRot d (symStart (ltOf cf) d a m b) m (mid + m - symStart (ltOf cf) d a m b)) a (symStart (ltOf cf) d a m b) mid else symRot d (symStart (ltOf cf) d a m b) m (mid + m - symStart (ltOf cf) d a m b)))) := by
  show _ = _
  rw [symMerge, if_neg (by omega), if_neg (by omega), ← hmd]
 have hpp1 : pp + 1 ≤ mid + m := by omega
 have hpp2 : mid + m ≤ pp + 1 := by omega
 clear S hcmp ih hmd hpp
 go_enter Try.func91, Try.ntmps91
 go_wp2
 go_loopg [20, 21] (m - a) (fun kx s10 s11 wr => ∃ (i j : Nat), s10 = .int .i64 i ∧ s11 = .int .i64 j ∧ a ≤ i ∧ i ≤ j ∧ j ≤ m ∧ j - i ≤ kx ∧ Aside (SW enc w0 blk off d wr) ∧ Hid (search (fun c => !ltOf cf d[pp - c]! d[c]!) i j = search (fun c => !ltOf cf d[pp - c]! d[c]!) a m))
 case atStart => exact ⟨a, m, rfl, rfl, by omega, by omega, by omega, by omega, S0, rfl⟩
 case round =>
  clear S0
  obtain ⟨i, j, rfl, rfl, hi, hij, hj, hkx, S1, HE⟩ := hrel
  by_cases hlt : i < j
  ·have hltz : (i : Int) < (j : Int) := by omega
   obtain ⟨h, hh⟩ : ∃ h, h = (i + j) / 2 := ⟨_, rfl⟩
   have eh : ((i : Int) + (j : Int)) / 2 = (h : Int) := by omega
   have hh1 : i ≤ h := by omega
   have hh2 : h < j := by omega
   obtain ⟨q, hq⟩ : ∃ q, q + h = pp := ⟨pp - h, by omega⟩
   have eq : (pp : Int) - (h : Int) = (q : Int) := by omega
   have hqp : pp - h = q := by omega
   have hq1 : q < d0.size := by omega
   have HE0 := HE.out
   rw [search, dif_pos hlt, ← hh, hqp] at HE0
   clear hqp hq
   cases hlv : ltOf cf d[q]! d[h]! with
   | true =>
    have HE2 : Hid (search (fun c => !ltOf cf d[pp - c]! d[c]!) i h = search (fun c => !ltOf cf d[pp - c]! d[c]!) a m) := by rw [if_neg (by rw [hlv]; decide)] at HE0; exact HE0
    clear HE HE0 hh
    obtain ⟨iN1, hiN1⟩ : ∃ q_, q_ = q := ⟨_, rfl⟩
    obtain ⟨jN1, hjN1⟩ : ∃ q_, q_ = h := ⟨_, rfl⟩
    have ea1 : ((q : Int)).toNat = iN1 := by first | (rw [hiN1]; first | done | exact Int.toNat_natCast _) | omega
    have pa1 : (0 : Int) ≤ (q : Int) := by omega
    have ba1 : (q : Int) < (d0.size : Int) := by omega
    have ra1 : IntKind.i64.wrap ((q : Int)) = (q : Int) := by rw [IntKind.wrap_i64]; omega
    have ec1 : ((h : Int)).toNat = jN1 := by first | (rw [hjN1]; first | done | exact Int.toNat_natCast _) | omega
    have pc1 : (0 : Int) ≤ (h : Int) := by omega
    have bc1 : (h : Int) < (d0.size : Int) := by omega
    have rc1 : IntKind.i64.wrap ((h : Int)) = (h : Int) := by rw [IntKind.wrap_i64]; omega
    obtain ⟨x1, hx1⟩ : ∃ x, x = d[q]! := ⟨_, rfl⟩
    obtain ⟨y1, hy1⟩ : ∃ x, x = d[h]! := ⟨_, rfl⟩
    have la1 := S1.out.cl R hs (q) (by omega)
    have lb1 := S1.out.cl R hs (h) (by omega)
    rw [← hx1, ← hiN1] at la1
    rw [← hy1, ← hjN1] at lb1
    have hc1 := S1.out.cmp HC.out hs x1 y1
    have hv1 : cf x1 y1 < 0 := by rw [hx1, hy1]; exact of_decide_eq_true hlv
    have hd1 : decide (cf x1 y1 < 0) = true := decide_eq_true hv1
    clear hx1 hy1 hiN1 hjN1
    go_wp2_with fail
    go_quiet_grown (first | (go_at_fn g; refine Calls.grown_of (hc1 _ _)))
    have S2 : Aside (SW enc w0 blk off d (grow (wr.drewN nq) osq)) := S1.out.grown nq osq
    clear la1 lb1 hc1 S1
    generalize grow (wr.drewN nq) osq = w2 at S2 ⊢
    clear nq osq
    clear ea1 ec1
    go_wp2
    go_roundg (h - i)
    case measure => omega
    case rel => exact ⟨i, h, rfl, rfl, by omega, by omega, by omega, Nat.le_refl _, S2, HE2⟩
   | false =>
    have HE2 : Hid (search (fun c => !ltOf cf d[pp - c]! d[c]!) (h + 1) j = search (fun c => !ltOf cf d[pp - c]! d[c]!) a m) := by rw [if_pos (by rw [hlv]; rfl)] at HE0; exact HE0
    clear HE HE0 hh
    obtain ⟨iN2, hiN2⟩ : ∃ q_, q_ = q := ⟨_, rfl⟩
    obtain ⟨jN2, hjN2⟩ : ∃ q_, q_ = h := ⟨_, rfl⟩
    have ea2 : ((q : Int)).toNat = iN2 := by first | (rw [hiN2]; first | done | exact Int.toNat_natCast _) | omega
    have pa2 : (0 : Int) ≤ (q : Int) := by omega
    have ba2 : (q : Int) < (d0.size : Int) := by omega
    have ra2 : IntKind.i64.wrap ((q : Int)) = (q : Int) := by rw [IntKind.wrap_i64]; omega
    have ec2 : ((h : Int)).toNat = jN2 := by first | (rw [hjN2]; first | done | exact Int.toNat_natCast _) | omega
    have pc2 : (0 : Int) ≤ (h : Int) := by omega
    have bc2 : (h : Int) < (d0.size : Int) := by omega
    have rc2 : IntKind.i64.wrap ((h : Int)) = (h : Int) := by rw [IntKind.wrap_i64]; omega
    obtain ⟨x2, hx2⟩ : ∃ x, x = d[q]! := ⟨_, rfl⟩
    obtain ⟨y2, hy2⟩ : ∃ x, x = d[h]! := ⟨_, rfl⟩
    have la2 := S1.out.cl R hs (q) (by omega)
    have lb2 := S1.out.cl R hs (h) (by omega)
    rw [← hx2, ← hiN2] at la2
    rw [← hy2, ← hjN2] at lb2
    have hc2 := S1.out.cmp HC.out hs x2 y2
    have hv2 : ¬ cf x2 y2 < 0 := by rw [hx2, hy2]; exact of_decide_eq_false hlv
    have hd2 : decide (cf x2 y2 < 0) = false := decide_eq_false hv2
    clear hx2 hy2 hiN2 hjN2
    go_wp2_with fail
    go_quiet_grown (first | (go_at_fn g; refine Calls.grown_of (hc2 _ _)))
    have S2 : Aside (SW enc w0 blk off d (grow (wr.drewN nq) osq)) := S1.out.grown nq osq
    clear la2 lb2 hc2 S1
    generalize grow (wr.drewN nq) osq = w2 at S2 ⊢
    clear nq osq
    clear ea2 ec2
    go_wp2
    go_roundg (j - (h + 1))
    case measure => omega
    case rel => exact ⟨h + 1, j, by go_num, rfl, by omega, by omega, by omega, Nat.le_refl _, S2, HE2⟩
  ·have hltz : ¬ (i : Int) < (j : Int) := by omega
   have HE2 : Hid (i = symStart (ltOf cf) d a m b) := by
    have HE0 := HE.out
    rw [search, dif_neg hlt] at HE0
    rw [HE0]
    exact hst0.out
   have HR : Hid _ := hres.out
   rw [← HE2.out] at HR
   clear HE hst0 hres HE2
   obtain ⟨e, he⟩ : ∃ e, e + i = mid + m := ⟨mid + m - i, by omega⟩
   have ee : (mid : Int) + (m : Int) - (i : Int) = (e : Int) := by omega
   rw [show mid + m - i = e by omega] at HR
   have b1 : m ≤ e := by omega
   have b2 : e ≤ b := by omega
   have b3 : i ≤ m := by omega
   have b4 : i ≤ mid := by omega
   have b5 : e + i ≤ mid + m := by omega
   have b6 : mid + m ≤ e + i := by omega
   clear he
   by_cases q0 : i < m
   ·skip
    by_cases q2 : i < mid
    ·skip
     have z1 : (i : Int) < (m : Int) := by omega
     have z1d : decide ((i : Int) < (m : Int)) = true := decide_eq_true z1
     have z0 : (m : Int) < (e : Int) := by omega
     have z0d : decide ((m : Int) < (e : Int)) = true := decide_eq_true z0
     go_wp2_with fail
     ((with_reducible refine (rotate_calls enc g cb blk off cap i m e d0 d w0 _ R hs S1.out (by omega) (by omega) (by omega) hsz).mono ?_))
     rintro e' w3 ⟨rfl, T3⟩
     have S3 : Aside (SW enc w0 blk off (rot m (m - i) (e - m) d) w3) := T3
     clear T3 S1
     have z2 : (i : Int) < (mid : Int) := by omega
     have z2d : decide ((i : Int) < (mid : Int)) = true := decide_eq_true z2
     by_cases q15 : a < i
     ·skip
      have z3 : (a : Int) < (i : Int) := by omega
      have z3d : decide ((a : Int) < (i : Int)) = true := decide_eq_true z3
      go_wp2_with fail
      ((with_reducible refine (IH.out a i mid (rot m (m - i) (e - m) d) _ (by omega) (by omega) (by omega) (by omega) (by rw [size_rot _ _ _ _ _ rfl]; exact hs) S3.out).mono ?_))
      rintro e' w4 ⟨rfl, T4⟩
      have S4 : Aside (SW enc w0 blk off (symMerge (ltOf cf) f (rot m (m - i) (e - m) d) a i mid) w4) := T4
      clear T4 S3
      have z5 : (mid : Int) < (e : Int) := by omega
      have z5d : decide ((mid : Int) < (e : Int)) = true := decide_eq_true z5
      by_cases q26 : e < b
      ·skip
       have z4 : (e : Int) < (b : Int) := by omega
       have z4d : decide ((e : Int) < (b : Int)) = true := decide_eq_true z4
       go_wp2_with fail
       ((with_reducible refine (IH.out mid e b (symMerge (ltOf cf) f (rot m (m - i) (e - m) d) a i mid) _ (by omega) (by omega) (by omega) (by omega) (by rw [size_symMerge]; exact (by rw [size_rot _ _ _ _ _ rfl]; exact hs)) S4.out).mono ?_))
       rintro e' w5 ⟨rfl, T5⟩
       have S5 : Aside (SW enc w0 blk off (symMerge (ltOf cf) f (symMerge (ltOf cf) f (rot m (m - i) (e - m) d) a i mid) mid e b) w5) := T5
       clear T5 S4
       go_wp2
       go_end0
       refine ⟨rfl, ?_⟩
       have hr := HR.out
       rw [if_pos (show mid < e ∧ e < b from ⟨by omega, by omega⟩), if_pos (show a < i ∧ i < mid from ⟨by omega, by omega⟩), symRot, if_pos (show i < m ∧ m < e from ⟨by omega, by omega⟩)] at hr
       rw [hr]
       exact S5.out
      ·skip
       have z4 : ¬ (e : Int) < (b : Int) := by omega
       have z4d : decide ((e : Int) < (b : Int)) = false := decide_eq_false z4
       go_wp2
       go_end0
       refine ⟨rfl, ?_⟩
       have hr := HR.out
       rw [if_neg (show ¬ (mid < e ∧ e < b) by omega), if_pos (show a < i ∧ i < mid from ⟨by omega, by omega⟩), symRot, if_pos (show i < m ∧ m < e from ⟨by omega, by omega⟩)] at hr
       rw [hr]
       exact S4.out
     ·skip
      have z3 : ¬ (a : Int) < (i : Int) := by omega
      have z3d : decide ((a : Int) < (i : Int)) = false := decide_eq_false z3
      have z5 : (mid : Int) < (e : Int) := by omega
      have z5d : decide ((mid : Int) < (e : Int)) = true := decide_eq_true z5
      by_cases q57 : e < b
      ·skip
       have z4 : (e : Int) < (b : Int) := by omega
       have z4d : decide ((e : Int) < (b : Int)) = true := decide_eq_true z4
       go_wp2_with fail
       ((with_reducible refine (IH.out mid e b (rot m (m - i) (e - m) d) _ (by omega) (by omega) (by omega) (by omega) (by rw [size_rot _ _ _ _ _ rfl]; exact hs) S3.out).mono ?_))
       rintro e' w5 ⟨rfl, T5⟩
       have S5 : Aside (SW enc w0 blk off (symMerge (ltOf cf) f (rot m (m - i) (e - m) d) mid e b) w5) := T5
       clear T5 S3
       go_wp2
       go_end0
       refine ⟨rfl, ?_⟩
       have hr := HR.out
       rw [if_pos (show mid < e ∧ e < b from ⟨by omega, by omega⟩), if_neg (show ¬ (a < i ∧ i < mid) by omega), symRot, if_pos (show i < m ∧ m < e from ⟨by omega, by omega⟩)] at hr
       rw [hr]
       exact S5.out
      ·skip
       have z4 : ¬ (e : Int) < (b : Int) := by omega
       have z4d : decide ((e : Int) < (b : Int)) = false := decide_eq_false z4
       go_wp2
       go_end0
       refine ⟨rfl, ?_⟩
       have hr := HR.out
       rw [if_neg (show ¬ (mid < e ∧ e < b) by omega), if_neg (show ¬ (a < i ∧ i < mid) by omega), symRot, if_pos (show i < m ∧ m < e from ⟨by omega, by omega⟩)] at hr
       rw [hr]
       exact S3.out
    ·skip
     exfalso; omega
   ·skip
    by_cases q86 : i < mid
    ·skip
     have z1 : ¬ (i : Int) < (m : Int) := by omega
     have z1d : decide ((i : Int) < (m : Int)) = false := decide_eq_false z1
     have z0 : (m : Int) < (e : Int) := by omega
     have z0d : decide ((m : Int) < (e : Int)) = true := decide_eq_true z0
     have z2 : (i : Int) < (mid : Int) := by omega
     have z2d : decide ((i : Int) < (mid : Int)) = true := decide_eq_true z2
     by_cases q94 : a < i
     ·skip
      have z3 : (a : Int) < (i : Int) := by omega
      have z3d : decide ((a : Int) < (i : Int)) = true := decide_eq_true z3
      go_wp2_with fail
      ((with_reducible refine (IH.out a i mid d _ (by omega) (by omega) (by omega) (by omega) hs S1.out).mono ?_))
      rintro e' w4 ⟨rfl, T4⟩
      have S4 : Aside (SW enc w0 blk off (symMerge (ltOf cf) f d a i mid) w4) := T4
      clear T4 S1
      have z5 : ¬ (mid : Int) < (e : Int) := by omega
      have z5d : decide ((mid : Int) < (e : Int)) = false := decide_eq_false z5
      go_wp2
      go_end0
      refine ⟨rfl, ?_⟩
      have hr := HR.out
      rw [if_neg (show ¬ (mid < e ∧ e < b) by omega), if_pos (show a < i ∧ i < mid from ⟨by omega, by omega⟩), symRot, if_neg (show ¬ (i < m ∧ m < e) by omega)] at hr
      rw [hr]
      exact S4.out
     ·skip
      have z3 : ¬ (a : Int) < (i : Int) := by omega
      have z3d : decide ((a : Int) < (i : Int)) = false := decide_eq_false z3
      have z5 : ¬ (mid : Int) < (e : Int) := by omega
      have z5d : decide ((mid : Int) < (e : Int)) = false := decide_eq_false z5
      go_wp2
      go_end0
      refine ⟨rfl, ?_⟩
      have hr := HR.out
      rw [if_neg (show ¬ (mid < e ∧ e < b) by omega), if_neg (show ¬ (a < i ∧ i < mid) by omega), symRot, if_neg (show ¬ (i < m ∧ m < e) by omega)] at hr
      rw [hr]
      exact S1.out
    ·skip
     have z1 : ¬ (i : Int) < (m : Int) := by omega
     have z1d : decide ((i : Int) < (m : Int)) = false := decide_eq_false z1
     have z0 : ¬ (m : Int) < (e : Int) := by omega
     have z0d : decide ((m : Int) < (e : Int)) = false := decide_eq_false z0
     have z2 : ¬ (i : Int) < (mid : Int) := by omega
     have z2d : decide ((i : Int) < (mid : Int)) = false := decide_eq_false z2
     by_cases q131 : a < i
     ·skip
      have z3 : (a : Int) < (i : Int) := by omega
      have z3d : decide ((a : Int) < (i : Int)) = true := decide_eq_true z3
      have z5 : ¬ (mid : Int) < (e : Int) := by omega
      have z5d : decide ((mid : Int) < (e : Int)) = false := decide_eq_false z5
      go_wp2
      go_end0
      refine ⟨rfl, ?_⟩
      have hr := HR.out
      rw [if_neg (show ¬ (mid < e ∧ e < b) by omega), if_neg (show ¬ (a < i ∧ i < mid) by omega), symRot, if_neg (show ¬ (i < m ∧ m < e) by omega)] at hr
      rw [hr]
      exact S1.out
     ·skip
      have z3 : ¬ (a : Int) < (i : Int) := by omega
      have z3d : decide ((a : Int) < (i : Int)) = false := decide_eq_false z3
      have z5 : ¬ (mid : Int) < (e : Int) := by omega
      have z5d : decide ((mid : Int) < (e : Int)) = false := decide_eq_false z5
      go_wp2
      go_end0
      refine ⟨rfl, ?_⟩
      have hr := HR.out
      rw [if_neg (show ¬ (mid < e ∧ e < b) by omega), if_neg (show ¬ (a < i ∧ i < mid) by omega), symRot, if_neg (show ¬ (i < m ∧ m < e) by omega)] at hr
      rw [hr]
      exact S1.out

theorem symMerge_calls (enc : α → Value) (cf : α → α → Int) (g : Nat) (cb : Array Value) (blk off cap : Nat) (d0 : Array α) (w0 : World)
  (eg : ∀ args w, (callFunc g args).run Try.prog w = .ok (.enter g args) w) (hcmp : CmpLays1 Try.prog g cb enc cf blk off d0.size w0)
  (R : Row1 enc w0 blk off d0) (hsz : d0.size < 4611686018427387904) : ∀ (f a m b : Nat) (d : Array α) (w : World), b - a ≤ f → a < m → m < b → b ≤ d0.size → d.size = d0.size → SW enc w0 blk off d w →
   Calls Try.prog 91 #[.slice (some ⟨blk, off, none⟩) d0.size cap, .int .i64 a, .int .i64 m, .int .i64 b, .func (.func g) #[] cb] w fun e w' => e = .returned (.tuple #[]) ∧ SW enc w0 blk off (symMerge (ltOf cf) f d a m b) w' := by
 intro f
 induction f with
 | zero => intro a m b d w h1 h2 h3; omega
 | succ f ih =>
  intro a m b d w hf ham hmb hb hs S
  by_cases c1 : m - a = 1
  ·rw [symMerge, if_pos c1]
   exact sym_one enc cf g cb blk off cap a m b d0 d w0 w eg hcmp R hs S (by omega) hmb hb hsz
  ·by_cases c2 : b - m = 1
   ·rw [symMerge, if_neg c1, if_pos c2]
    exact sym_last enc cf g cb blk off cap a m b d0 d w0 w eg hcmp R hs S (by omega) (by omega) hb hsz
   ·by_cases c3 : (a + b) / 2 < m
    ·exact sym_hi enc cf g cb blk off cap f a m b d0 d w0 w eg hcmp R hs S hf (by omega) (by omega) hb hsz ih c3
    ·exact sym_lo enc cf g cb blk off cap f a m b d0 d w0 w eg hcmp R hs S hf (by omega) (by omega) hb hsz ih (by omega)
end Go.Proofs.Ythmckhfjaleomaa.St
/- slices.insertionSortCmpFunc at []int: the shelf's walk, laid at this program. -/
namespace Go.Proofs.Ythmckhfjaleomaa.St
open Go.Proofs Go.Shelf Go.RowKit Go.Lib Go.Sort
def insRen : Go.Shelf.Ren := ⟨fun | 20 => 90 | n => n, fun | 24 => 3 | 22 => 51 | 3 => 3 | 25 => 115 | 4 => 4 | 0 => 0 | n => n, fun | n => n⟩
theorem insLays : Go.Proofs.SlLaysF.n20 Try.prog insRen := {
 mixed := by kernel_rfl
 f20 := ⟨Try.f90.name, by decide, Try.func90.trans (congrArg some (by kernel_rfl))⟩
 t0 := Try.underlying0
 a0 := Try.isAgg0
 z0 := Try.sizeOf0
 v0 := Try.zeroValue0
 t3 := Try.underlying3
 a3 := Try.isAgg3
 z3 := Try.sizeOf3
 v3 := Try.zeroValue3
 t4 := Try.underlying4
 a4 := Try.isAgg4
 z4 := Try.sizeOf4
 v4 := Try.zeroValue4
 t22 := Try.underlying51
 a22 := Try.isAgg51
 z22 := Try.sizeOf51
 v22 := Try.zeroValue51
 a24 := Try.isAgg3
 z24 := Try.sizeOf3
 t25 := Try.underlying115
 a25 := Try.isAgg115
 z25 := Try.sizeOf115
 v25 := Try.zeroValue115 }
theorem insertion_calls {α : Type} [Inhabited α] (enc : α → Value) (cf : α → α → Int) (g : Nat) (cb : Array Value) (blk off cap a b : Nat) (d0 d : Array α) (w0 w : World) (eg : ∀ args w, (callFunc g args).run Try.prog w = .ok (.enter g args) w) (hcmp : CmpLays1 Try.prog g cb enc cf blk off d0.size w0) (R : Row1 enc w0 blk off d0) (hs : d.size = d0.size) (S : SW enc w0 blk off d w) (hab : a ≤ b) (hb : b ≤ d0.size) (hsz : d0.size < 4611686018427387904) :
  Calls Try.prog 90 #[.slice (some ⟨blk, off, none⟩) d0.size cap, .int .i64 a, .int .i64 b, .func (.func g) #[] cb] w fun e w' => e = .returned (.tuple #[]) ∧ SW enc w0 blk off (Sort.insertionSort (ltOf cf) d a b) w' := by
 rw [← hs] at hb hsz ⊢
 exact Any.insertionSortCmpFunc_s insLays enc cf g cb blk off cap a b d0 d w0 w eg hcmp R hs.symm S hab hb hsz
end Go.Proofs.Ythmckhfjaleomaa.St
/- slices.stableCmpFunc and slices.SortStableFunc at []int. -/
namespace Go.Proofs.Ythmckhfjaleomaa.St
open Go.Proofs Go.Shelf Go.RowKit Go.Lib Go.Sort
variable {α : Type} [Inhabited α]

theorem size_blocks (lt : α → α → Bool) (s n : Nat) : ∀ (q a : Nat) (d : Array α), n - a = q → (blocks lt s n a d).size = d.size := by
 intro q
 induction q using Nat.strongRecOn with
 | _ q ih =>
  intro a d h
  rw [blocks]
  split
  ·rw [ih (n - (a + s)) (by omega) _ _ rfl, size_insertionSort]
  ·rw [size_insertionSort]

set_option maxHeartbeats 4000000 in
set_option maxRecDepth 1000000 in
theorem stable_calls (enc : α → Value) (cf : α → α → Int) (g : Nat) (cb : Array Value) (blk off cap : Nat) (d0 d : Array α) (w0 w : World)
  (eg : ∀ args w, (callFunc g args).run Try.prog w = .ok (.enter g args) w) (hcmp : CmpLays1 Try.prog g cb enc cf blk off d0.size w0)
  (R : Row1 enc w0 blk off d0) (hs : d.size = d0.size) (S : SW enc w0 blk off d w) (hsz : d0.size < 2305843009213693952) :
  Calls Try.prog 89 #[.slice (some ⟨blk, off, none⟩) d0.size cap, .int .i64 d0.size, .func (.func g) #[] cb] w fun e w' => e = .returned (.tuple #[]) ∧ SW enc w0 blk off (stable (ltOf cf) d) w' := by
 have hsz2 : d0.size < 4611686018427387904 := by omega
 have HC : Aside (CmpLays1 Try.prog g cb enc cf blk off d0.size w0) := hcmp
 have S0 : Aside (SW enc w0 blk off d w) := S
 obtain ⟨n, hn⟩ : ∃ n, n = d0.size := ⟨_, rfl⟩
 have hstab : Hid (passes (ltOf cf) 20 n (blocks (ltOf cf) 20 n 0 d) = stable (ltOf cf) d) := by show _ = _; unfold stable; rw [hn, hs]
 have HN : Hid (n = d0.size) := hn
 have hn1 : n ≤ d0.size := by omega
 have hn2 : d0.size ≤ n := by omega
 clear S hcmp
 clear hn
 go_enter Try.func89, Try.ntmps89
 go_wp2
 go_loopg [7, 8] n (fun kx s7 s8 wr => ∃ (a b : Nat) (dk : Array α), s7 = .int .i64 a ∧ s8 = .int .i64 b ∧ a ≤ n ∧ b ≤ a + 20 ∧ a + 20 ≤ b ∧ n - a ≤ kx ∧ Hid (dk.size = d0.size) ∧ Aside (SW enc w0 blk off dk wr) ∧ Hid (blocks (ltOf cf) 20 n a dk = blocks (ltOf cf) 20 n 0 d))
 case atStart => exact ⟨0, 20, d, rfl, rfl, by omega, by omega, by omega, by omega, hs, S0, rfl⟩
 case round =>
  clear S0
  obtain ⟨a, b, dk, rfl, rfl, han, hab1, hab2, hkx, hds, S1, HE⟩ := hrel
  by_cases hlt : b ≤ n
  ·have hltz : (b : Int) ≤ (d0.size : Int) := by omega
   have HE2 : Hid (blocks (ltOf cf) 20 n b (insertionSort (ltOf cf) dk a b) = blocks (ltOf cf) 20 n 0 d) := by
    have e := HE.out
    rw [blocks, dif_pos ⟨by omega, by omega⟩, show a + 20 = b by omega] at e
    exact e
   clear HE
   go_wp2_with fail
   ((with_reducible refine (insertion_calls enc cf g cb blk off cap a b d0 dk w0 _ eg HC.out R hds.out S1.out (by omega) (by omega) hsz2).mono ?_))
   rintro e' w2 ⟨rfl, T2⟩
   have S2 : Aside (SW enc w0 blk off (insertionSort (ltOf cf) dk a b) w2) := T2
   clear T2 S1
   go_wp2
   go_roundg (n - b)
   case measure => omega
   case rel => exact ⟨b, b + 20, insertionSort (ltOf cf) dk a b, rfl, by go_num, by omega, by omega, by omega, Nat.le_refl _, by show _ = _; rw [size_insertionSort]; exact hds.out, S2, HE2⟩
  ·have hltz : ¬ (b : Int) ≤ (d0.size : Int) := by omega
   have HE2 : Hid (insertionSort (ltOf cf) dk a d0.size = blocks (ltOf cf) 20 n 0 d) := by
    have e := HE.out
    rw [blocks, dif_neg (by omega)] at e
    rw [← HN.out]
    exact e
   clear HE
   go_wp2_with fail
   ((with_reducible refine (insertion_calls enc cf g cb blk off cap a d0.size d0 dk w0 _ eg HC.out R hds.out S1.out (by omega) (Nat.le_refl _) hsz2).mono ?_))
   rintro e' w2 ⟨rfl, T2⟩
   have S2 : Aside (SW enc w0 blk off (insertionSort (ltOf cf) dk a d0.size) w2) := T2
   have hd2 : Hid ((insertionSort (ltOf cf) dk a d0.size).size = d0.size) := by show _ = _; rw [size_insertionSort]; exact hds.out
   have HE3 : Hid (passes (ltOf cf) 20 n (insertionSort (ltOf cf) dk a d0.size) = stable (ltOf cf) d) := by show _ = _; rw [HE2.out]; exact hstab.out
   clear T2 S1 HE2 hstab hds
   generalize insertionSort (ltOf cf) dk a d0.size = d2 at S2 hd2 HE3
   go_wp2
   go_loopg [6, 7, 8, 9] n (fun kx s6 s7 s8 s9 wr => ∃ (s : Nat) (dk : Array α), s6 = .int .i64 s ∧ 0 < s ∧ n - s ≤ kx ∧ Hid (dk.size = d0.size) ∧ Aside (SW enc w0 blk off dk wr) ∧ Hid (passes (ltOf cf) s n dk = stable (ltOf cf) d))
   case atStart => exact ⟨20, d2, rfl, by omega, by omega, hd2, S2, HE3⟩
   case round =>
    clear S2 hd2 HE3
    obtain ⟨s, d3, rfl, hs0, hkx2, hd3, S3, HF⟩ := hrel
    by_cases hlt2 : s < n
    ·have hltz2 : (s : Int) < (d0.size : Int) := by omega
     have HF2 : Hid (passes (ltOf cf) (2 * s) n (pass (ltOf cf) s n 0 d3) = stable (ltOf cf) d) := by
      have e := HF.out
      rw [passes, dif_pos ⟨by omega, by omega⟩] at e
      exact e
     clear HF
     go_wp2
     go_loopg [7, 8] n (fun kx s7 s8 wr => ∃ (a b : Nat) (dk : Array α), s7 = .int .i64 a ∧ s8 = .int .i64 b ∧ a ≤ n ∧ b ≤ a + 2 * s ∧ a + 2 * s ≤ b ∧ n - a ≤ kx ∧ Hid (dk.size = d0.size) ∧ Aside (SW enc w0 blk off dk wr) ∧ Hid (pass (ltOf cf) s n a dk = pass (ltOf cf) s n 0 d3))
     case atStart => exact ⟨0, 2 * s, d3, rfl, by go_num, by omega, by omega, by omega, by omega, hd3, S3, rfl⟩
     case round =>
      clear S3
      obtain ⟨a, b, d4, rfl, rfl, han, hab1, hab2, hkx3, hd4, S4, HG⟩ := hrel
      by_cases hlt3 : b ≤ n
      ·have hltz3 : (b : Int) ≤ (d0.size : Int) := by omega
       obtain ⟨t, ht⟩ : ∃ t, t = a + s := ⟨_, rfl⟩
       have eas : (a : Int) + (s : Int) = (t : Int) := by omega
       have ht1 : t ≤ a + s := by omega
       have ht2 : a + s ≤ t := by omega
       have HG2 : Hid (pass (ltOf cf) s n b (symMerge (ltOf cf) n d4 a t b) = pass (ltOf cf) s n 0 d3) := by
        have e := HG.out
        rw [pass, dif_pos ⟨by omega, by omega⟩, show a + 2 * s = b by omega, ← ht] at e
        exact e
       clear HG ht
       go_wp2_with fail
       ((with_reducible refine (symMerge_calls enc cf g cb blk off cap d0 w0 eg HC.out R hsz2 n a t b d4 _ (by omega) (by omega) (by omega) (by omega) hd4.out S4.out).mono ?_))
       rintro e' w5 ⟨rfl, T5⟩
       have S5 : Aside (SW enc w0 blk off (symMerge (ltOf cf) n d4 a t b) w5) := T5
       clear T5 S4
       go_wp2
       go_roundg (n - b)
       case measure => omega
       case rel => exact ⟨b, b + 2 * s, symMerge (ltOf cf) n d4 a t b, rfl, by go_num, by omega, by omega, by omega, Nat.le_refl _, by show _ = _; rw [size_symMerge]; exact hd4.out, S5, HG2⟩
      ·have hltz3 : ¬ (b : Int) ≤ (d0.size : Int) := by omega
       obtain ⟨t, ht⟩ : ∃ t, t = a + s := ⟨_, rfl⟩
       have eas : (a : Int) + (s : Int) = (t : Int) := by omega
       have ht1 : t ≤ a + s := by omega
       have ht2 : a + s ≤ t := by omega
       by_cases hm : t < n
       ·have hmz : (t : Int) < (d0.size : Int) := by omega
        have HG2 : Hid (symMerge (ltOf cf) n d4 a t d0.size = pass (ltOf cf) s n 0 d3) := by
         have e := HG.out
         rw [pass, dif_neg (by omega), if_pos (by rw [← ht]; exact hm), ← ht] at e
         rw [← HN.out]
         exact e
        clear HG ht
        go_wp2_with fail
        ((with_reducible refine (symMerge_calls enc cf g cb blk off cap d0 w0 eg HC.out R hsz2 n a t d0.size d4 _ (by omega) (by omega) (by omega) (Nat.le_refl _) hd4.out S4.out).mono ?_))
        rintro e' w5 ⟨rfl, T5⟩
        have S5 : Aside (SW enc w0 blk off (symMerge (ltOf cf) n d4 a t d0.size) w5) := T5
        clear T5 S4
        go_wp2
        go_roundg (n - 2 * s)
        case measure => omega
        case rel => exact ⟨2 * s, symMerge (ltOf cf) n d4 a t d0.size, by go_num, by omega, Nat.le_refl _, by show _ = _; rw [size_symMerge]; exact hd4.out, S5, by show _ = _; rw [HG2.out]; exact HF2.out⟩
       ·have hmz : ¬ (t : Int) < (d0.size : Int) := by omega
        have HG2 : Hid (d4 = pass (ltOf cf) s n 0 d3) := by
         have e := HG.out
         rw [pass, dif_neg (by omega), if_neg (by rw [← ht]; exact hm)] at e
         exact e
        clear HG ht
        go_wp2
        go_roundg (n - 2 * s)
        case measure => omega
        case rel => exact ⟨2 * s, d4, by go_num, by omega, Nat.le_refl _, hd4.out, S4, by show _ = _; rw [HG2.out]; exact HF2.out⟩
    ·have hltz2 : ¬ (s : Int) < (d0.size : Int) := by omega
     go_wp2
     go_end0
     refine ⟨rfl, ?_⟩
     have e := HF.out
     rw [passes, dif_neg (by omega)] at e
     rw [← e]
     exact S3.out

set_option maxHeartbeats 400000 in
theorem sortStable_calls (enc : α → Value) (cf : α → α → Int) (g : Nat) (cb : Array Value) (blk off cap : Nat) (d : Array α) (w : World)
  (eg : ∀ args w, (callFunc g args).run Try.prog w = .ok (.enter g args) w) (hcmp : CmpLays1 Try.prog g cb enc cf blk off d.size w)
  (R : Row1 enc w blk off d) (hsz : d.size < 2305843009213693952) :
  Calls Try.prog 87 #[.slice (some ⟨blk, off, none⟩) d.size cap, .func (.func g) #[] cb] w fun e w' => e = .returned (.tuple #[]) ∧ SW enc w blk off (stable (ltOf cf) d) w' := by
 go_enter Try.func87, Try.ntmps87
 go_wp2_with fail
 ((with_reducible refine (stable_calls enc cf g cb blk off cap d d w w eg hcmp R rfl (SW.start R.hH) hsz).mono ?_))
 rintro e' w5 ⟨rfl, T5⟩
 go_wp2
 go_end0
 exact ⟨rfl, T5⟩
end Go.Proofs.Ythmckhfjaleomaa.St
/- What rank.sorted answers, in plain Lean. -/
namespace Go.Proofs.Ythmckhfjaleomaa.St
open Go.Sort
/-- n things' places, as the stable sort by 'cf' has them. -/
def places (cf : Nat → Nat → Int) : Nat → List Int
 | 0 => []
 | m + 1 => (stable (fun x y : Fin (m + 1) => decide (cf x.val y.val < 0)) (Array.ofFn fun i : Fin (m + 1) => i)).toList.map fun x => (x.val : Int)
def cmpI (x y : Int) : Int := if x < y then -1 else if y < x then 1 else 0
/-- rank.Order. -/
def orderL (l : List Int) : List Int := places (fun x y => cmpI (l.getD y 0) (l.getD x 0)) l.length
end Go.Proofs.Ythmckhfjaleomaa.St
/- cmp.Compare[int64], and the comparator of rank.Order. -/
namespace Go.Proofs.Ythmckhfjaleomaa.St
open Go.Proofs Go.Shelf Go.RowKit Go.Lib Go.Sort

set_option maxRecDepth 1000000 in
theorem isNaN_calls (x : Int) (w : World) : Calls Try.prog 88 #[.int .i64 x] w fun e w' => e = .returned (.bool false) ∧ ∃ q os, w' = grow (w.drewN q) os := by
 have h : (x != x) = false := by rw [bne_eq_false_iff_eq]
 go_enter Try.func88, Try.ntmps88
 go_wp2
 refine bodyPost_ret (results_tmp rfl _ _ _) rfl ?_
 exact ⟨rfl, 0, #[], by rw [grow_empty]; rfl⟩

set_option maxRecDepth 1000000 in
theorem compare_calls (x y : Int) (w : World) : Calls Try.prog 85 #[.int .i64 x, .int .i64 y] w fun e w' => e = .returned (.int .i64 (cmpI x y)) ∧ ∃ q os, w' = grow (w.drewN q) os := by
 go_enter Try.func85, Try.ntmps85
 go_wp2_with fail
 ((with_reducible refine (isNaN_calls x _).mono ?_))
 rintro e' w1 ⟨rfl, q1, os1, rfl⟩
 go_wp2_with fail
 ((with_reducible refine (isNaN_calls y _).mono ?_))
 rintro e' w2 ⟨rfl, q2, os2, rfl⟩
 have hg : grow ((grow (w.drewN q1) os1).drewN q2) os2 = grow (w.drewN (q1 + q2)) (os1 ++ os2) := by
  show grow (grow ((w.drewN q1).drewN q2) os1) os2 = _
  rw [grow_grow, World.drewN_drewN]
 have k1 : x < y → cmpI x y = -1 := fun h => by rw [cmpI, if_pos h]
 have k2 : y < x → cmpI x y = 1 := fun h => by rw [cmpI, if_neg (by omega), if_pos h]
 have k3 : ¬ x < y → ¬ y < x → cmpI x y = 0 := fun h h' => by rw [cmpI, if_neg h, if_neg h']
 by_cases h1 : x < y
 ·have K : Hid (cmpI x y = -1) := k1 h1
  clear k1 k2 k3
  go_wp2
  refine bodyPost_ret (results_tmp rfl _ _ _) rfl ?_
  exact ⟨by rw [K.out]; rfl, _, _, rfl⟩
 ·by_cases h2 : y < x
  ·have K : Hid (cmpI x y = 1) := k2 h2
   clear k1 k2 k3
   go_wp2
   refine bodyPost_ret (results_tmp rfl _ _ _) rfl ?_
   exact ⟨by rw [K.out]; rfl, _, _, rfl⟩
  ·have K : Hid (cmpI x y = 0) := k3 h1 h2
   clear k1 k2 k3
   go_wp2
   refine bodyPost_ret (results_tmp rfl _ _ _) rfl ?_
   exact ⟨by rw [K.out]; rfl, _, _, rfl⟩

set_option maxRecDepth 1000000 in
/-- rank.Order's comparator: b's number against a's. -/
theorem order1_calls (lb : Nat) (ad : Addr) (n c : Nat) (i j : Nat) (x y : Int) (w : World) (hb : w.cell? ⟨lb, 0, none⟩ = some (.slice (some ad) n c)) (hi : i < n) (hj : j < n)
  (hx : w.cell? (ad.add i) = some (.int .i64 x)) (hy : w.cell? (ad.add j) = some (.int .i64 y)) :
  Calls Try.prog 84 (#[.int .i64 i, .int .i64 j] ++ #[.pointer (some ⟨lb, 0, none⟩)]) w fun e w' => e = .returned (.int .i64 (cmpI y x)) ∧ ∃ q os, w' = grow (w.drewN q) os := by
 show Calls Try.prog 84 #[.int .i64 i, .int .i64 j, .pointer (some ⟨lb, 0, none⟩)] w _
 have mixed : Try.prog.follows .mixedOrders = true := by kernel_rfl
 have lt : ∀ (a : Addr) v, w.cell? a = some v → a.block < w.heap.size := by
  intro a v h
  unfold World.cell? at h
  rcases Nat.lt_or_ge a.block w.heap.size with h2 | h2
  ·exact h2
  ·rw [Array.getElem?_eq_none h2] at h; cases h
 have g0 : ∀ (a : Addr) v, w.cell? a = some v → ∀ n os, (grow (w.drewN n) os).cell? a = some v := by
  intro a v h n os
  rw [cell?_grow (w.drewN n) os a (lt a v h)]
  exact h
 have la := g0 _ _ hb
 have lx := g0 _ _ hx
 have ly := g0 _ _ hy
 have pi : (0 : Int) ≤ (i : Int) := by omega
 have pj : (0 : Int) ≤ (j : Int) := by omega
 have bi : (i : Int) < (n : Int) := by omega
 have bj : (j : Int) < (n : Int) := by omega
 clear g0 lt hb hx hy
 go_enter Try.func84, Try.ntmps84
 go_wp2
 go_quiet_grown (refine Calls.grown_of (compare_calls y x _))
 clear la lx ly
 go_wp2
 refine bodyPost_ret (results_tmp rfl _ _ _) rfl ?_
 exact ⟨rfl, _, _, rfl⟩
end Go.Proofs.Ythmckhfjaleomaa.St
/- rank.sorted. -/
namespace Go.Proofs.Ythmckhfjaleomaa.St
open Go.Proofs Go.Shelf Go.RowKit Go.Lib Go.Sort Go.Proofs.YthmckhfjaleomaaW.PrintWords

set_option maxRecDepth 1000000 in
theorem insertion_none (p : Option Addr) (cap : Nat) (fv : Value) (w : World) :
  Calls Try.prog 90 #[.slice p 0 cap, .int .i64 0, .int .i64 0, fv] w fun e w' => e = .returned (.tuple #[]) ∧ ∃ q os, w' = grow (w.drewN q) os := by
 have mixed : Try.prog.follows .mixedOrders = true := by kernel_rfl
 go_enter Try.func90, Try.ntmps90
 go_wp2
 refine wp_loop_rounds 1 ?_
 rw [rounds_succ]
 go_wp2
 go_end0
 exact ⟨rfl, 0, #[], by rw [grow_empty]; rfl⟩

set_option maxRecDepth 1000000 in
theorem stable_none (p : Option Addr) (cap : Nat) (fv : Value) (w : World) :
  Calls Try.prog 89 #[.slice p 0 cap, .int .i64 0, fv] w fun e w' => e = .returned (.tuple #[]) ∧ ∃ q os, w' = grow (w.drewN q) os := by
 have mixed : Try.prog.follows .mixedOrders = true := by kernel_rfl
 go_enter Try.func89, Try.ntmps89
 go_wp2
 refine wp_loop_rounds 1 ?_
 rw [rounds_succ]
 go_wp2_with fail
 ((with_reducible refine (insertion_none p cap fv _).mono ?_))
 rintro e' w2 ⟨rfl, q, os, rfl⟩
 go_wp2
 refine wp_loop_rounds 1 ?_
 rw [rounds_succ]
 go_wp2
 go_end0
 exact ⟨rfl, q, os, rfl⟩

theorem sortStable_none (p : Option Addr) (cap : Nat) (fv : Value) (w : World) :
  Calls Try.prog 87 #[.slice p 0 cap, fv] w fun e w' => e = .returned (.tuple #[]) ∧ ∃ q os, w' = grow (w.drewN q) os := by
 go_enter Try.func87, Try.ntmps87
 go_wp2_with fail
 ((with_reducible refine (stable_none p cap fv w).mono ?_))
 rintro e' w2 ⟨rfl, q, os, rfl⟩
 go_wp2
 go_end0
 exact ⟨rfl, q, os, rfl⟩

/-- The row of places while it is filled: the first i are told. -/
structure Rw (w : World) (b t n i : Nat) (wr : World) : Prop where
 below : Below b w wr
 hb : w.heap.size ≤ b
 sz : b < wr.heap.size
 row : ∃ cur, wr.heap[b]? = some (.cells cur t (0, 0)) ∧ cur.size = n ∧ ∀ j, j < i → cur[j]? = some (.int .i64 (j : Int))

theorem Rw.cell {w wr : World} {b t n i : Nat} (h : Rw w b t n i wr) (j : Nat) (hj : j < n) : ∃ u, wr.cell? ⟨b, j, none⟩ = some u := by
 obtain ⟨cur, e, hs, _⟩ := h.row
 refine ⟨cur[j]'(by omega), ?_⟩
 unfold World.cell?
 rw [e]
 simp [hs, hj]
theorem Rw.frozen {w wr : World} {b t n i : Nat} (h : Rw w b t n i wr) (j : Nat) : wr.frozen? ⟨b, j, none⟩ = false := by
 obtain ⟨cur, e, hs, _⟩ := h.row
 unfold World.frozen?
 rw [e]
 simp
theorem Rw.drewN {w wr : World} {b t n i : Nat} (h : Rw w b t n i wr) (q : Nat) : Rw w b t n i (wr.drewN q) :=
 ⟨⟨h.below.os, h.below.tape, h.below.output, h.below.size, h.below.block⟩, h.hb, h.sz, h.row⟩
theorem Rw.drew {w wr : World} {b t n i : Nat} (h : Rw w b t n i wr) : Rw w b t n i wr.drew := h.drewN 1
theorem Rw.set {w wr : World} {b t n i : Nat} (h : Rw w b t n i wr) (hi : i < n) : Rw w b t n (i + 1) (wr.setCell ⟨b, i, none⟩ (.int .i64 (i : Int))) := by
 obtain ⟨bl, hb, sz, cur, e, hs, hc⟩ := h
 refine ⟨⟨bl.os, bl.tape, bl.output, by simpa using bl.size, fun k hk => ?_⟩, hb, by simpa using sz, cur.setIfInBounds i (.int .i64 (i : Int)), ?_, by simpa using hs, fun j hj => ?_⟩
 ·rw [Below.heap_setCell wr ⟨b, i, none⟩ _ k (by show k ≠ b; omega)]
  exact bl.block k hk
 ·unfold World.setCell
  simp only [Array.getElem?_modify, if_true, e, Option.map_some]
  rfl
 ·rw [Array.getElem?_setIfInBounds]
  by_cases c : i = j
  ·subst c; rw [if_pos rfl, if_pos (by omega)]
  ·rw [if_neg c]; exact hc j (by omega)
theorem Rw.made (w : World) (t n : Nat) : Rw w w.heap.size t n 0 (w.alloc (.cells (madeCells #[.int .i64 0] n) t)) := by
 refine ⟨⟨rfl, rfl, rfl, by simp, fun k hk => ?_⟩, Nat.le_refl _, by simp, madeCells #[.int .i64 0] n, ?_, size_madeCells _ _, fun j hj => by omega⟩
 ·show (w.heap.push _)[k]? = _
  rw [Array.getElem?_push]
  simp; omega
 ·show (w.heap.push _)[w.heap.size]? = _
  simp

def encF (m : Nat) (x : Fin (m + 1)) : Value := .int .i64 (x.val : Int)
def row0 (m : Nat) : Array (Fin (m + 1)) := Array.ofFn fun i => i
theorem size_row0 (m : Nat) : (row0 m).size = m + 1 := by simp [row0]
theorem row0_at (m j : Nat) (h : j < m + 1) : (row0 m)[j]! = ⟨j, h⟩ := by
 rw [getElem!_pos _ j (by rw [size_row0]; exact h)]
 simp [row0]
theorem Rw.holds {w wr : World} {b t m : Nat} (h : Rw w b t (m + 1) (m + 1) wr) : Holds (encF m) wr b 0 (row0 m) := by
 intro j hj
 rw [size_row0] at hj
 refine ⟨?_, by rw [Nat.zero_add]; exact h.frozen j⟩
 obtain ⟨cur, e, hs, hc⟩ := h.row
 rw [row0_at m j hj, Nat.zero_add]
 unfold World.cell?
 rw [e]
 exact hc j hj
theorem size_stable {α : Type} [Inhabited α] (lt : α → α → Bool) (d : Array α) : (stable lt d).size = d.size := by
 have hpass : ∀ (s n q a : Nat) (d : Array α), n - a = q → (pass lt s n a d).size = d.size := by
  intro s n q
  induction q using Nat.strongRecOn with
  | _ q ih =>
   intro a d h
   rw [pass]
   split
   ·rw [ih (n - (a + 2 * s)) (by omega) _ _ rfl, size_symMerge]
   ·split
    ·rw [size_symMerge]
    ·rfl
 have hpasses : ∀ (n q s : Nat) (d : Array α), n - s = q → (passes lt s n d).size = d.size := by
  intro n q
  induction q using Nat.strongRecOn with
  | _ q ih =>
   intro s d h
   rw [passes]
   split
   ·rw [ih (n - 2 * s) (by omega) _ _ rfl, hpass _ _ _ _ _ rfl]
   ·rfl
 unfold stable
 rw [hpasses _ _ _ _ rfl, size_blocks _ _ _ _ _ _ rfl]
theorem sorted_below {w wr : World} {b t n i : Nat} (h : Rw w b t n i wr) {α : Type} [Inhabited α] (enc : α → Value) (k : Nat) (dk : Array α) (os : Array Obj) : Below w.heap.size w (sortWorld enc wr b 0 k dk os) := by
 have hb := h.hb
 have hsz := h.sz
 have hz := size_putRow enc (Sort.ahead wr k) b 0 dk
 refine ⟨h.below.os, h.below.tape, h.below.output, ?_, fun j hj => ?_⟩
 ·show _ ≤ ((putRow enc (Sort.ahead wr k) b 0 dk).heap ++ os).size
  rw [Array.size_append, hz]
  have := h.below.size
  show _ ≤ wr.heap.size + _
  omega
 ·show ((putRow enc (Sort.ahead wr k) b 0 dk).heap ++ os)[j]? = _
  rw [Array.getElem?_append_left (by rw [hz]; show j < wr.heap.size; omega)]
  show ((wr.heap.modify b (onCells (putCells enc 0 dk))))[j]? = _
  rw [Array.getElem?_modify, if_neg (by omega)]
  exact h.below.block j (by omega)
theorem own_sorted {w wr w' : World} {b t m : Nat} (h : Rw w b t (m + 1) (m + 1) wr) {dk : Array (Fin (m + 1))} (hdk : dk.size = m + 1) (hS : SW (encF m) wr b 0 dk w') (hm : m + 1 ≤ 17592186044416) :
  w'.ownsRow w.heap.size t 1 (.slice (some ⟨b, 0, none⟩) (m + 1) (m + 1)) (m + 1) (dk.toList.map fun x => .int .i64 (x.val : Int)) ∧ Below w.heap.size w w' := by
 obtain ⟨k, os, rfl⟩ := hS
 refine ⟨⟨by simp [hdk], .inr ?_⟩, sorted_below h _ _ _ _⟩
 obtain ⟨cur, e, hs, hc⟩ := h.row
 have hz := size_putRow (encF m) (Sort.ahead wr k) b 0 dk
 refine ⟨b, m + 1, putCells (encF m) 0 dk cur, rfl, h.hb, ?_, Nat.le_refl _, by simp only [maxLen]; omega, ?_, ?_⟩
 ·show ((putRow (encF m) (Sort.ahead wr k) b 0 dk).heap ++ os)[b]? = _
  rw [Array.getElem?_append_left (by rw [hz]; exact h.sz)]
  show ((wr.heap.modify b (onCells (putCells (encF m) 0 dk))))[b]? = _
  rw [Array.getElem?_modify, if_pos rfl, e]
  rfl
 ·simp [putCells, hs]
 ·rw [Nat.mul_one, List.take_of_length_le (by simp [putCells, hs])]
  apply List.ext_getElem?
  intro j
  unfold putCells
  rcases Nat.lt_or_ge j (m + 1) with hj | hj
  ·rw [List.getElem?_map, Array.getElem?_toList, Array.getElem?_toList, Array.getElem?_mapIdx, Array.getElem?_eq_getElem (by omega), Array.getElem?_eq_getElem (by omega)]
   simp [hdk, hj, encF]
  ·rw [List.getElem?_eq_none (by simp [hs]; omega), List.getElem?_eq_none (by simp [hdk]; omega)]

set_option maxHeartbeats 1000000 in
set_option maxRecDepth 1000000 in
theorem sorted_calls (cf : Nat → Nat → Int) (g : Nat) (cb : Array Value) (n : Nat) (w : World) (hn : n ≤ 17592186044416)
  (eg : ∀ args w, (callFunc g args).run Try.prog w = .ok (.enter g args) w)
  (hcmp : ∀ W, Below w.heap.size w W → ∀ x y : Nat, x < n → y < n → Calls Try.prog g (#[.int .i64 x, .int .i64 y] ++ cb) W fun e w' => e = .returned (.int .i64 (cf x y)) ∧ ∃ q os, w' = grow (W.drewN q) os) :
  Calls Try.prog 83 #[.int .i64 n, .func (.func g) #[] cb] w fun e w' => ∃ v, e = .returned v ∧ Kd.R (Kd.int .i64) 3 w' w.heap.size (fun _ => True) v (places cf n) ∧ Below w.heap.size w w' := by
 have mixed : Try.prog.follows .mixedOrders = true := by kernel_rfl
 have hinfo : (Try.prog.info? 3).map (fun i => (i.zero, i.size, i.bytes)) = some (some (.int .i64 0), 1, 8) := by kernel_rfl
 have mk := print_make_int (P := Try.prog) 51 3 (.int .i64 0) 8 Try.underlying51 hinfo rfl (by omega) (n : Int) (by omega) (by rw [Int.toNat_natCast]; omega)
 simp only [Int.toNat_natCast] at mk
 have HC : Aside (∀ W, Below w.heap.size w W → ∀ x y : Nat, x < n → y < n → Calls Try.prog g (#[.int .i64 x, .int .i64 y] ++ cb) W fun e w' => e = .returned (.int .i64 (cf x y)) ∧ ∃ q os, w' = grow (W.drewN q) os) := hcmp
 clear hcmp hinfo
 go_enter Try.func83, Try.ntmps83
 go_wp2
 have S0 : Aside (Rw w w.heap.size 3 n 0 (w.alloc (.cells (madeCells #[.int .i64 0] n) 3))) := Rw.made w 3 n
 obtain ⟨b, hb⟩ : ∃ b, b = w.heap.size := ⟨_, rfl⟩
 have HB : Hid (b = w.heap.size) := hb
 rw [← hb] at S0 ⊢
 generalize w.alloc (.cells (madeCells #[.int .i64 0] n) 3) = w1 at S0 ⊢
 clear hb mk
 go_loopg [6, 11] n (fun kx s6 s11 wr => ∃ i : Nat, s11 = .int .i64 i ∧ i ≤ n ∧ n - i ≤ kx ∧ Aside (Rw w b 3 n i wr))
 case atStart => exact ⟨0, rfl, by omega, by omega, S0⟩
 case round =>
  clear S0
  obtain ⟨i, rfl, hi, hkx, S1⟩ := hrel
  by_cases hlt : i < n
  ·have hltz : (i : Int) < (n : Int) := by omega
   obtain ⟨u, hc⟩ := S1.out.cell i hlt
   have hf := S1.out.frozen i
   have S2 : Aside (Rw w b 3 n (i + 1) (wr.setCell ⟨b, i, none⟩ (.int .i64 (i : Int)))) := S1.out.set hlt
   clear S1
   go_wp2
   go_roundg (n - (i + 1))
   case measure => omega
   case rel => exact ⟨i + 1, by go_num, by omega, Nat.le_refl _, S2⟩
  ·have hltz : ¬ (i : Int) < (n : Int) := by omega
   obtain rfl : i = n := by omega
   cases i with
   | zero =>
    go_wp2_with fail
    ((with_reducible refine (sortStable_none _ _ _ _).mono ?_))
    rintro e' w2 ⟨rfl, q, os, rfl⟩
    go_wp2
    refine bodyPost_ret (results_tmp rfl _ _ _) rfl ?_
    obtain ⟨cur, e, hs, hc⟩ := S1.out.row
    have hsz := S1.out.sz
    have bl := S1.out.below
    refine ⟨_, rfl, Kd.R_of_own (enc := Value.int .i64) (xs := ([] : List Int)) ⟨rfl, .inr ⟨b, 0, cur, rfl, by rw [HB.out]; exact Nat.le_refl _, ?_, Nat.le_refl _, Nat.zero_le _, hs, rfl⟩⟩ (fun _ _ => trivial), ?_⟩
    ·show (wr.heap ++ os)[b]? = _
     rw [Array.getElem?_append_left hsz]
     exact e
    ·refine ⟨bl.os, bl.tape, bl.output, ?_, fun j hj => ?_⟩
     ·show _ ≤ (wr.heap ++ os).size
      rw [Array.size_append]
      have := bl.size
      omega
     ·show (wr.heap ++ os)[j]? = _
      have hj2 : j < b := by rw [HB.out]; exact hj
      rw [Array.getElem?_append_left (by omega)]
      exact bl.block j hj2
   | succ m =>
    have call : ∀ W, Rw w b 3 (m + 1) (m + 1) W → Calls Try.prog 87 #[.slice (some ⟨b, 0, none⟩) (m + 1) (m + 1), .func (.func g) #[] cb] W fun e w' => e = .returned (.tuple #[]) ∧ SW (encF m) W b 0 (stable (ltOf fun x y : Fin (m + 1) => cf x.val y.val) (row0 m)) w' := by
     intro W hW
     have h := sortStable_calls (encF m) (fun x y : Fin (m + 1) => cf x.val y.val) g cb b 0 (m + 1) (row0 m) W eg (by
      intro k os dk hdk x y
      exact HC.out _ (sorted_below hW (encF m) k dk os) x.val y.val x.isLt y.isLt) ⟨fun _ => rfl, hW.holds, hW.sz⟩ (by rw [size_row0]; omega)
     rw [size_row0] at h
     exact h
    have hst : (stable (ltOf fun x y : Fin (m + 1) => cf x.val y.val) (row0 m)).size = m + 1 := by
     rw [size_stable, size_row0]
    have hpl : Hid (places cf (m + 1) = (stable (ltOf fun x y : Fin (m + 1) => cf x.val y.val) (row0 m)).toList.map fun x => (x.val : Int)) := rfl
    have HS : Hid ((stable (ltOf fun x y : Fin (m + 1) => cf x.val y.val) (row0 m)).size = m + 1) := hst
    have HA : Aside (∀ W, Rw w b 3 (m + 1) (m + 1) W → Calls Try.prog 87 #[.slice (some ⟨b, 0, none⟩) (m + 1) (m + 1), .func (.func g) #[] cb] W fun e w' => e = .returned (.tuple #[]) ∧ SW (encF m) W b 0 (stable (ltOf fun x y : Fin (m + 1) => cf x.val y.val) (row0 m)) w') := call
    clear hst call HC
    generalize stable (ltOf fun x y : Fin (m + 1) => cf x.val y.val) (row0 m) = dk at hpl HS HA
    go_wp2_with fail
    ((with_reducible refine (HA.out _ S1.out).mono ?_))
    rintro e' w2 ⟨rfl, T2⟩
    have S2 : Aside (SW (encF m) wr b 0 dk w2) := T2
    clear T2
    go_wp2
    refine bodyPost_ret (results_tmp rfl _ _ _) rfl ?_
    obtain ⟨h1, h2⟩ := own_sorted S1.out HS.out S2.out hn
    refine ⟨_, rfl, ?_, h2⟩
    rw [hpl.out]
    refine Kd.R_of_own (enc := Value.int .i64) ?_ (fun _ _ => trivial)
    have hl : (dk.toList.map fun x => (x.val : Int)).length = m + 1 := by simp [HS.out]
    rw [hl]
    have he : encs (Value.int .i64) (dk.toList.map fun x => (x.val : Int)) = dk.toList.map fun x => .int .i64 (x.val : Int) := by simp [encs]
    rw [he]
    exact h1
end Go.Proofs.Ythmckhfjaleomaa.St
/- rank.Order. -/
namespace Go.Proofs.Ythmckhfjaleomaa.St
open Go.Proofs Go.Shelf Go.RowKit Go.Lib Go.Sort Go.Proofs.YthmckhfjaleomaaW.PrintWords

set_option maxHeartbeats 1000000 in
set_option maxRecDepth 1000000 in
theorem order_calls (A0 : Option Addr) (c0 : Nat) (l0 : List Int) (w : World) (hr0 : Kd.C (Kd.int .i64) w A0 l0.length l0) (hn : l0.length ≤ 17592186044416) :
  Calls Try.prog 74 #[.slice A0 l0.length c0] w fun e w' => ∃ v, e = .returned v ∧ Kd.R (Kd.int .i64) 3 w' w.heap.size (fun _ => True) v (orderL l0) ∧ Below w.heap.size w w' := by
 have mixed : Try.prog.follows .mixedOrders = true := by kernel_rfl
 have hb1 : Below w.heap.size w (w.alloc (.cells #[.slice A0 l0.length c0] 36)) := by
  refine ⟨rfl, rfl, rfl, by simp, fun k hk => ?_⟩
  show (w.heap.push _)[k]? = _
  rw [Array.getElem?_push]
  simp; omega
 have hbox : (w.alloc (.cells #[.slice A0 l0.length c0] 36)).cell? ⟨w.heap.size, 0, none⟩ = some (.slice A0 l0.length c0) := by
  unfold World.cell?
  have e : (w.alloc (.cells #[.slice A0 l0.length c0] 36)).heap[w.heap.size]? = some (.cells #[.slice A0 l0.length c0] 36) := by
   show (w.heap.push _)[w.heap.size]? = _
   simp
  rw [e]
  rfl
 have hcmp : ∀ W, Below (w.alloc (.cells #[.slice A0 l0.length c0] 36)).heap.size (w.alloc (.cells #[.slice A0 l0.length c0] 36)) W → ∀ x y : Nat, x < l0.length → y < l0.length →
   Calls Try.prog 84 (#[.int .i64 x, .int .i64 y] ++ #[.pointer (some ⟨w.heap.size, 0, none⟩)]) W fun e w' => e = .returned (.int .i64 (cmpI (l0.getD y 0) (l0.getD x 0))) ∧ ∃ q os, w' = grow (W.drewN q) os := by
  intro W hW x y hx hy
  have hlt : w.heap.size < (w.alloc (.cells #[.slice A0 l0.length c0] 36)).heap.size := by simp
  have get : ∀ i : Nat, i < l0.length → ∃ ad, A0 = some ad ∧ W.cell? (ad.add i) = some (.int .i64 (l0.getD i 0)) := by
   intro i hi
   obtain ⟨ad, c, e, _, hK, hc0⟩ := Kd.C_get (Kd.C_below hr0 (hb1.trans (hW.mono (Nat.le_of_lt hlt)))) 0 (i : Int) (by omega) (by omega)
   have hK' : c = [.int .i64 (l0.getD i 0)] := by rw [Int.toNat_natCast] at hK; exact hK
   subst hK'
   have h := hc0 0 _ rfl
   rw [Int.toNat_natCast] at h
   exact ⟨ad, e, by rw [show i * (Kd.int .i64).sz + 0 = i by show i * 1 + 0 = i; omega] at h; exact h⟩
  obtain ⟨ad, e, hx1⟩ := get x hx
  obtain ⟨ad', e', hy1⟩ := get y hy
  obtain rfl : ad = ad' := by rw [e] at e'; injection e'
  have hb : W.cell? ⟨w.heap.size, 0, none⟩ = some (.slice (some ad) l0.length c0) := by
   rw [← e, ← hbox]
   unfold World.cell?
   rw [hW.block w.heap.size hlt]
  exact order1_calls w.heap.size ad l0.length c0 x y _ _ W hb hx hy hx1 hy1
 have eg : ∀ args w, (callFunc 84 args).run Try.prog w = .ok (.enter 84 args) w := enters_of Try.func84 (by kernel_rfl) rfl
 have hs := sorted_calls (fun x y => cmpI (l0.getD y 0) (l0.getD x 0)) 84 #[.pointer (some ⟨w.heap.size, 0, none⟩)] l0.length _ hn eg hcmp
 have HB : Hid (w.heap.size ≤ (w.alloc (.cells #[.slice A0 l0.length c0] 36)).heap.size) := by show _ ≤ _; simp
 have HS : Aside (Calls Try.prog 83 #[.int .i64 (l0.length : Int), .func (.func 84) #[] #[.pointer (some ⟨w.heap.size, 0, none⟩)]] (w.alloc (.cells #[.slice A0 l0.length c0] 36)) fun e w' => ∃ v, e = .returned v ∧ Kd.R (Kd.int .i64) 3 w' (w.alloc (.cells #[.slice A0 l0.length c0] 36)).heap.size (fun _ => True) v (places (fun x y => cmpI (l0.getD y 0) (l0.getD x 0)) l0.length) ∧ Below (w.alloc (.cells #[.slice A0 l0.length c0] 36)).heap.size (w.alloc (.cells #[.slice A0 l0.length c0] 36)) w') := hs
 have H1 : Hid (Below w.heap.size w (w.alloc (.cells #[.slice A0 l0.length c0] 36))) := hb1
 clear hs hcmp hb1 eg
 go_enter Try.func74, Try.ntmps74
 go_wp2_with fail
 ((with_reducible refine HS.out.mono ?_))
 rintro e' w2 ⟨v, rfl, h1, h2⟩
 go_wp2
 refine bodyPost_ret (results_tmp rfl _ _ _) rfl ?_
 exact ⟨_, rfl, Kd.R_lower h1 HB.out, H1.out.trans (h2.mono HB.out)⟩
end Go.Proofs.Ythmckhfjaleomaa.St
