/- The plain half of slices.SortStableFunc: its text as functions over an array and a 'less', and what they make of a row. No model in this text. -/
import Derived.Sort.LotA
namespace Go.Proofs.Ytjcfhgpaipbedaa.St
open Go.Sort
variable {α : Type} [Inhabited α]

/-! ### The functions, after the library's text -/
def swapFrom (a b n i : Nat) (d : Array α) : Array α := if i < n then swapFrom a b n (i + 1) (swp d (a + i) (b + i)) else d
termination_by n - i

def rot (m i j : Nat) (d : Array α) : Array α :=
  if _h : i = 0 ∨ j = 0 then d else
  if _h1 : i = j then swapFrom (m - i) m i 0 d else
  if _h2 : j < i then rot m (i - j) j (swapFrom (m - i) m j 0 d) else rot m i (j - i) (swapFrom (m - i) (m + j - i) i 0 d)
termination_by i + j

def search (P : Nat → Bool) (i j : Nat) : Nat :=
  if _h : i < j then if P ((i + j) / 2) then search P ((i + j) / 2 + 1) j else search P i ((i + j) / 2) else i
termination_by j - i

def shiftUp (k e : Nat) (d : Array α) : Array α := if k + 1 < e then shiftUp (k + 1) e (swp d k (k + 1)) else d
termination_by e - k

def shiftDown (i : Nat) : Nat → Array α → Array α
  | 0, d => d
  | k + 1, d => if i < k + 1 then shiftDown i k (swp d (k + 1) k) else d

variable (lt : α → α → Bool)

def symStart (d : Array α) (a m b : Nat) : Nat :=
  search (fun c => !lt d[(a + b) / 2 + m - 1 - c]! d[c]!) (if (a + b) / 2 < m then (a + b) / 2 + m - b else a) (if (a + b) / 2 < m then (a + b) / 2 else m)

def symRot (d : Array α) (s m e : Nat) : Array α := if s < m ∧ m < e then rot m (m - s) (e - m) d else d

def symMerge : Nat → Array α → Nat → Nat → Nat → Array α
  | 0, d, _, _, _ => d
  | f + 1, d, a, m, b =>
    if m - a = 1 then shiftUp a (search (fun h => lt d[h]! d[a]!) m b) d
    else if b - m = 1 then shiftDown (search (fun h => !lt d[m]! d[h]!) a m) m d
    else
      let s := symStart lt d a m b
      let mid := (a + b) / 2
      let e := mid + m - s
      let d1 := symRot d s m e
      let d2 := if a < s ∧ s < mid then symMerge f d1 a s mid else d1
      if mid < e ∧ e < b then symMerge f d2 mid e b else d2

def blocks (s n a : Nat) (d : Array α) : Array α :=
  if _h : 0 < s ∧ a + s ≤ n then blocks s n (a + s) (insertionSort lt d a (a + s)) else insertionSort lt d a n
termination_by n - a
decreasing_by omega

def pass (s n a : Nat) (d : Array α) : Array α :=
  if _h : 0 < s ∧ a + 2 * s ≤ n then pass s n (a + 2 * s) (symMerge lt n d a (a + s) (a + 2 * s))
  else if a + s < n then symMerge lt n d a (a + s) n else d
termination_by n - a
decreasing_by omega

def passes (s n : Nat) (d : Array α) : Array α := if _h : 0 < s ∧ s < n then passes (2 * s) n (pass lt s n 0 d) else d
termination_by n - s
decreasing_by omega

def stable (d : Array α) : Array α := passes lt 20 d.size (blocks lt 20 d.size 0 d)

/-! ### What they make of a row -/
variable {lt}

theorem permIn_swp (d : Array α) {a b i j : Nat} (h1 : a ≤ i) (h2 : i < b) (h3 : a ≤ j) (h4 : j < b) (hb : b ≤ d.size) : PermIn a b d (swp d i j) := swp_permIn d a b i j h1 h2 h3 h4 hb

theorem swapFrom_spec (a b n : Nat) (hab : a + n ≤ b) : ∀ (r i : Nat) (d : Array α), n - i = r → i ≤ n → b + n ≤ d.size →
    (swapFrom a b n i d).size = d.size ∧ (∀ k, (swapFrom a b n i d)[k]! = if a + i ≤ k ∧ k < a + n then d[k - a + b]! else if b + i ≤ k ∧ k < b + n then d[k - b + a]! else d[k]!) ∧
    (∀ lo hi, lo ≤ a → b + n ≤ hi → hi ≤ d.size → PermIn lo hi d (swapFrom a b n i d)) := by
  intro r
  induction r with
  | zero =>
    intro i d hr hi hs
    rw [swapFrom, if_neg (by omega)]
    refine ⟨rfl, fun k => ?_, fun lo hi _ _ _ => permIn_refl d lo hi⟩
    rw [if_neg (by omega), if_neg (by omega)]
  | succ r ih =>
    intro i d hr hi hs
    rw [swapFrom, if_pos (by omega)]
    obtain ⟨h1, h2, h3⟩ := ih (i + 1) (swp d (a + i) (b + i)) (by omega) (by omega) (by rw [size_swp]; exact hs)
    refine ⟨by rw [h1, size_swp], fun k => ?_, fun lo hi' hlo hhi hsz => ?_⟩
    · rw [h2 k]
      have g := swp_get d (i := a + i) (j := b + i) (by omega) (by omega)
      rw [g, g, g]
      by_cases c1 : a + i ≤ k ∧ k < a + n
      · rw [if_pos c1]
        by_cases c2 : k = a + i
        · subst c2
          rw [if_neg (by omega), if_neg (by omega), if_neg (by omega), if_pos rfl]
          congr 1; omega
        · rw [if_pos (by omega), if_neg (by omega), if_neg (by omega)]
      · rw [if_neg c1, if_neg (by omega)]
        by_cases c3 : b + i ≤ k ∧ k < b + n
        · rw [if_pos c3]
          by_cases c4 : k = b + i
          · subst c4
            rw [if_neg (by omega), if_pos rfl]
            congr 1; omega
          · rw [if_pos (by omega), if_neg (by omega), if_neg (by omega)]
        · rw [if_neg c3, if_neg (by omega), if_neg (by omega), if_neg (by omega)]
    · exact permIn_trans _ _ _ _ _ (permIn_swp d (by omega) (by omega) (by omega) (by omega) hsz) (h3 lo hi' hlo hhi (by rw [size_swp]; exact hsz))

theorem swapRange_spec (a b n : Nat) (d : Array α) (hab : a + n ≤ b) (hs : b + n ≤ d.size) :
    (swapFrom a b n 0 d).size = d.size ∧ (∀ k, (swapFrom a b n 0 d)[k]! = if a ≤ k ∧ k < a + n then d[k - a + b]! else if b ≤ k ∧ k < b + n then d[k - b + a]! else d[k]!) ∧
    (∀ lo hi, lo ≤ a → b + n ≤ hi → hi ≤ d.size → PermIn lo hi d (swapFrom a b n 0 d)) := by
  obtain ⟨h1, h2, h3⟩ := swapFrom_spec a b n hab n 0 d (by omega) (by omega) hs
  exact ⟨h1, by simpa using h2, h3⟩

/-- Where an element stands behind a rotation. -/
theorem rot_spec (m : Nat) : ∀ (q i j : Nat) (d : Array α), i + j = q → 0 < i → 0 < j → i ≤ m → m + j ≤ d.size →
    (rot m i j d).size = d.size ∧ (∀ k, (rot m i j d)[k]! = if m - i ≤ k ∧ k < m - i + j then d[k + i]! else if m - i + j ≤ k ∧ k < m + j then d[k - j]! else d[k]!) ∧
    (∀ lo hi, lo + i ≤ m → m + j ≤ hi → hi ≤ d.size → PermIn lo hi d (rot m i j d)) := by
  intro q
  induction q using Nat.strongRecOn with
  | _ q ih =>
    intro i j d hq hi hj him hs
    rw [rot, dif_neg (by omega)]
    by_cases e : i = j
    · rw [dif_pos e]
      subst e
      obtain ⟨h1, h2, h3⟩ := swapRange_spec (m - i) m i d (by omega) hs
      refine ⟨h1, fun k => ?_, fun lo hi' hlo hhi hsz => h3 lo hi' (by omega) hhi hsz⟩
      rw [h2 k]
      by_cases c1 : m - i ≤ k ∧ k < m - i + i
      · rw [if_pos c1, if_pos c1]; congr 1; omega
      · rw [if_neg c1, if_neg c1]
        by_cases c2 : m ≤ k ∧ k < m + i
        · rw [if_pos c2, if_pos (by omega)]; congr 1; omega
        · rw [if_neg c2, if_neg (by omega)]
    · rw [dif_neg e]
      by_cases c : j < i
      · rw [dif_pos c]
        obtain ⟨h1, h2, h3⟩ := swapRange_spec (m - i) m j d (by omega) hs
        obtain ⟨g1, g2, g3⟩ := ih (i - j + j) (by omega) (i - j) j (swapFrom (m - i) m j 0 d) rfl (by omega) hj (by omega) (by rw [h1]; exact hs)
        refine ⟨by rw [g1, h1], fun k => ?_, fun lo hi' hlo hhi hsz => permIn_trans _ _ _ _ _ (h3 lo hi' (by omega) hhi hsz) (g3 lo hi' (by omega) hhi (by rw [h1]; exact hsz))⟩
        obtain ⟨t, rfl⟩ : ∃ t, i = j + t := ⟨i - j, by omega⟩
        obtain ⟨u, rfl⟩ : ∃ u, m = j + t + u := ⟨m - (j + t), by omega⟩
        rw [g2 k]
        have e1 : j + t + u - (j + t - j) = u + j := by omega
        have e2 : j + t - j = t := by omega
        have e3 : j + t + u - (j + t) = u := by omega
        rw [e3] at h2
        rw [e1, e2, e3]
        by_cases c1 : u ≤ k ∧ k < u + j
        · rw [if_neg (by omega), if_neg (by omega), if_pos c1, h2, if_pos c1]; congr 1; omega
        · rw [if_neg c1]
          by_cases c2 : u + j ≤ k ∧ k < j + t + u + j
          · rw [if_pos c2]
            by_cases c3 : u + j ≤ k ∧ k < u + j + j
            · rw [if_pos c3, h2, if_neg (by omega), if_pos (by omega)]; congr 1; omega
            · rw [if_neg c3, if_pos (by omega), h2, if_neg (by omega), if_neg (by omega)]
          · rw [if_neg c2, if_neg (by omega), if_neg (by omega), h2, if_neg c1, if_neg (by omega)]
      · rw [dif_neg c]
        obtain ⟨h1, h2, h3⟩ := swapRange_spec (m - i) (m + j - i) i d (by omega) (by omega)
        obtain ⟨g1, g2, g3⟩ := ih (i + (j - i)) (by omega) i (j - i) (swapFrom (m - i) (m + j - i) i 0 d) rfl hi (by omega) him (by rw [h1]; omega)
        refine ⟨by rw [g1, h1], fun k => ?_, fun lo hi' hlo hhi hsz => permIn_trans _ _ _ _ _ (h3 lo hi' (by omega) (by omega) hsz) (g3 lo hi' hlo (by omega) (by rw [h1]; exact hsz))⟩
        rw [g2 k, h2, h2, h2]
        by_cases c1 : m - i ≤ k ∧ k < m - i + j
        · rw [if_pos c1]
          by_cases c2 : m - i ≤ k ∧ k < m - i + (j - i)
          · rw [if_pos c2, if_neg (by omega), if_neg (by omega)]
          · rw [if_neg c2]
            by_cases c3 : m - i + (j - i) ≤ k ∧ k < m + (j - i)
            · rw [if_pos c3]
              rw [if_pos (by omega)]; congr 1; omega
            · omega
        · rw [if_neg c1, if_neg (by omega)]
          by_cases c2 : m - i + j ≤ k ∧ k < m + j
          · rw [if_pos c2]
            by_cases c3 : m - i + (j - i) ≤ k ∧ k < m + (j - i)
            · omega
            · rw [if_neg c3, if_neg (by omega), if_pos (by omega)]; congr 1; omega
          · rw [if_neg c2, if_neg (by omega), if_neg (by omega), if_neg (by omega)]

theorem search_spec (P : Nat → Bool) : ∀ (q i j : Nat), j - i = q → i ≤ j → (∀ h h', i ≤ h → h ≤ h' → h' < j → P h' = true → P h = true) →
    i ≤ search P i j ∧ search P i j ≤ j ∧ (∀ h, i ≤ h → h < search P i j → P h = true) ∧ (∀ h, search P i j ≤ h → h < j → P h = false) := by
  intro q
  induction q using Nat.strongRecOn with
  | _ q ih =>
    intro i j hq hij hm
    rw [search]
    by_cases c : i < j
    · rw [dif_pos c]
      cases hp : P ((i + j) / 2) with
      | true =>
        rw [if_pos rfl]
        obtain ⟨h1, h2, h3, h4⟩ := ih (j - ((i + j) / 2 + 1)) (by omega) ((i + j) / 2 + 1) j rfl (by omega) (fun h h' a1 a2 a3 => hm h h' (by omega) a2 a3)
        refine ⟨by omega, h2, fun h a1 a2 => ?_, h4⟩
        by_cases c2 : h ≤ (i + j) / 2
        · exact hm h ((i + j) / 2) a1 c2 (by omega) hp
        · exact h3 h (by omega) a2
      | false =>
        rw [if_neg (by simp)]
        obtain ⟨h1, h2, h3, h4⟩ := ih ((i + j) / 2 - i) (by omega) i ((i + j) / 2) rfl (by omega) (fun h h' a1 a2 a3 => hm h h' a1 a2 (by omega))
        refine ⟨h1, by omega, h3, fun h a1 a2 => ?_⟩
        by_cases c2 : h < (i + j) / 2
        · exact h4 h a1 c2
        · cases hh : P h with
          | false => rfl
          | true => rw [hm ((i + j) / 2) h (by omega) (by omega) a2 hh] at hp; exact hp
    · rw [dif_neg c]
      exact ⟨Nat.le_refl _, hij, fun h a1 a2 => by omega, fun h a1 a2 => by omega⟩

theorem shiftUp_spec (e : Nat) : ∀ (q k : Nat) (d : Array α), e - k = q → k < e → e ≤ d.size →
    (shiftUp k e d).size = d.size ∧ (∀ p, (shiftUp k e d)[p]! = if k ≤ p ∧ p + 1 < e then d[p + 1]! else if p + 1 = e then d[k]! else d[p]!) ∧
    (∀ lo hi, lo ≤ k → e ≤ hi → hi ≤ d.size → PermIn lo hi d (shiftUp k e d)) := by
  intro q
  induction q with
  | zero => intro k d hq hk; omega
  | succ q ih =>
    intro k d hq hk hs
    rw [shiftUp]
    by_cases c : k + 1 < e
    · rw [if_pos c]
      obtain ⟨h1, h2, h3⟩ := ih (k + 1) (swp d k (k + 1)) (by omega) c (by rw [size_swp]; exact hs)
      refine ⟨by rw [h1, size_swp], fun p => ?_, fun lo hi hlo hhi hsz => permIn_trans _ _ _ _ _ (permIn_swp d hlo (by omega) (by omega) (by omega) hsz) (h3 lo hi (by omega) hhi (by rw [size_swp]; exact hsz))⟩
      have g := swp_get d (i := k) (j := k + 1) (by omega) (by omega)
      rw [h2 p, g, g, g]
      by_cases c1 : k ≤ p ∧ p + 1 < e
      · rw [if_pos c1]
        by_cases c2 : p = k
        · subst c2
          rw [if_neg (by omega), if_neg (by omega), if_neg (by omega), if_pos rfl]
        · rw [if_pos (by omega), if_neg (by omega), if_neg (by omega)]
      · rw [if_neg c1, if_neg (by omega)]
        by_cases c2 : p + 1 = e
        · rw [if_pos c2, if_pos c2, if_pos rfl]
        · rw [if_neg c2, if_neg c2, if_neg (by omega), if_neg (by omega)]
    · rw [if_neg c]
      refine ⟨rfl, fun p => ?_, fun lo hi _ _ _ => permIn_refl d lo hi⟩
      rw [if_neg (by omega)]
      by_cases c2 : p + 1 = e
      · rw [if_pos c2]; congr 1; omega
      · rw [if_neg c2]

theorem shiftDown_spec (i : Nat) : ∀ (k : Nat) (d : Array α), i ≤ k → k < d.size →
    (shiftDown i k d).size = d.size ∧ (∀ p, (shiftDown i k d)[p]! = if i < p ∧ p ≤ k then d[p - 1]! else if p = i then d[k]! else d[p]!) ∧
    (∀ lo hi, lo ≤ i → k < hi → hi ≤ d.size → PermIn lo hi d (shiftDown i k d)) := by
  intro k
  induction k with
  | zero =>
    intro d hi hs
    rw [shiftDown]
    refine ⟨rfl, fun p => ?_, fun lo hi _ _ _ => permIn_refl d lo hi⟩
    rw [if_neg (by omega)]
    by_cases c : p = i
    · rw [if_pos c]; congr 1; omega
    · rw [if_neg c]
  | succ k ih =>
    intro d hi hs
    rw [shiftDown]
    by_cases c : i < k + 1
    · rw [if_pos c]
      obtain ⟨h1, h2, h3⟩ := ih (swp d (k + 1) k) (by omega) (by rw [size_swp]; omega)
      refine ⟨by rw [h1, size_swp], fun p => ?_, fun lo hi hlo hhi hsz => permIn_trans _ _ _ _ _ (permIn_swp d (by omega) (by omega) (by omega) (by omega) hsz) (h3 lo hi hlo (by omega) (by rw [size_swp]; exact hsz))⟩
      have g := swp_get d (i := k + 1) (j := k) (by omega) (by omega)
      rw [h2 p, g, g, g]
      by_cases c1 : i < p ∧ p ≤ k + 1
      · rw [if_pos c1]
        by_cases c2 : p = k + 1
        · subst c2
          rw [if_neg (by omega), if_neg (by omega), if_neg (by omega), if_pos rfl]
          congr 1
        · rw [if_pos (by omega), if_neg (by omega), if_neg (by omega)]
      · rw [if_neg c1, if_neg (by omega)]
        by_cases c2 : p = i
        · rw [if_pos c2, if_pos c2, if_pos rfl]
        · rw [if_neg c2, if_neg c2, if_neg (by omega), if_neg (by omega)]
    · rw [if_neg c]
      refine ⟨rfl, fun p => ?_, fun lo hi _ _ _ => permIn_refl d lo hi⟩
      rw [if_neg (by omega)]
      by_cases c2 : p = i
      · rw [if_pos c2]; congr 1; omega
      · rw [if_neg c2]

/-- Rising by an order T. -/
def Up (T : α → α → Prop) (a b : Nat) (d : Array α) : Prop := ∀ i j, a ≤ i → i < j → j < b → T d[i]! d[j]!
/-- 'less' tells of an earlier and a later one which is ahead. -/
def Tells (lt : α → α → Bool) (T : α → α → Prop) (x y : α) : Prop := (lt y x = true → T y x) ∧ (lt y x = false → T x y)
def Cross (lt : α → α → Bool) (T : α → α → Prop) (a m b : Nat) (d : Array α) : Prop := ∀ p q, a ≤ p → p < m → m ≤ q → q < b → Tells lt T d[p]! d[q]!

structure Ord (T : α → α → Prop) : Prop where
  irrefl : ∀ x, ¬ T x x
  trans : ∀ x y z, T x y → T y z → T x z

theorem Up.le {T : α → α → Prop} {a b : Nat} {d : Array α} (h : Up T a b d) (O : Ord T) {i j : Nat} {y : α} (h1 : a ≤ i) (h2 : i ≤ j) (h3 : j < b) (hy : T d[j]! y) : T d[i]! y := by
  rcases Nat.lt_or_ge i j with c | c
  · exact O.trans _ _ _ (h i j h1 c h3) hy
  · obtain rfl : i = j := by omega
    exact hy
theorem Up.ge {T : α → α → Prop} {a b : Nat} {d : Array α} (h : Up T a b d) (O : Ord T) {i j : Nat} {y : α} (h1 : a ≤ i) (h2 : i ≤ j) (h3 : j < b) (hy : T y d[i]!) : T y d[j]! := by
  rcases Nat.lt_or_ge i j with c | c
  · exact O.trans _ _ _ hy (h i j h1 c h3)
  · obtain rfl : i = j := by omega
    exact hy

omit [Inhabited α] in
theorem Tells.yes {T : α → α → Prop} {x y : α} (O : Ord T) (h : Tells lt T x y) (ht : T y x) : lt y x = true := by
  cases hc : lt y x with
  | true => rfl
  | false => exact absurd (O.trans _ _ _ ht (h.2 hc)) (O.irrefl _)
omit [Inhabited α] in
theorem Tells.no {T : α → α → Prop} {x y : α} (O : Ord T) (h : Tells lt T x y) (ht : T x y) : lt y x = false := by
  cases hc : lt y x with
  | false => rfl
  | true => exact absurd (O.trans _ _ _ ht (h.1 hc)) (O.irrefl _)

theorem symMerge_spec {T : α → α → Prop} (O : Ord T) : ∀ (f a m b : Nat) (d : Array α), b - a ≤ f → a < m → m < b → b ≤ d.size → Up T a m d → Up T m b d → Cross lt T a m b d →
    PermIn a b d (symMerge lt f d a m b) ∧ Up T a b (symMerge lt f d a m b) := by
  intro f
  induction f with
  | zero => intro a m b d hf; omega
  | succ f ih =>
    intro a m b d hf ham hmb hs hL hR hC
    rw [symMerge]
    by_cases c1 : m - a = 1
    · rw [if_pos c1]
      obtain ⟨s1, s2, s3, s4⟩ := search_spec (fun h => lt d[h]! d[a]!) (b - m) m b rfl (by omega) (fun h h' k1 k2 k3 hp => by
        have t := hC a h' (by omega) (by omega) (by omega) k3
        exact (hC a h (by omega) (by omega) k1 (by omega)).yes O (hR.le O k1 k2 k3 (t.1 hp)))
      generalize search (fun h => lt d[h]! d[a]!) m b = s at *
      obtain ⟨g1, g2, g3⟩ := shiftUp_spec s (s - a) a d rfl (by omega) (by omega)
      refine ⟨g3 a b (Nat.le_refl _) s2 hs, fun i j h1 h2 h3 => ?_⟩
      rw [g2 i, g2 j]
      by_cases ci : a ≤ i ∧ i + 1 < s
      · rw [if_pos ci]
        by_cases cj : a ≤ j ∧ j + 1 < s
        · rw [if_pos cj]; exact hR _ _ (by omega) (by omega) (by omega)
        · rw [if_neg cj]
          by_cases ej : j + 1 = s
          · rw [if_pos ej]; exact (hC a (i + 1) (by omega) (by omega) (by omega) (by omega)).1 (s3 (i + 1) (by omega) (by omega))
          · rw [if_neg ej]; exact hR _ _ (by omega) (by omega) (by omega)
      · rw [if_neg ci, if_neg (show ¬ (a ≤ j ∧ j + 1 < s) by omega)]
        by_cases ei : i + 1 = s
        · rw [if_pos ei, if_neg (by omega)]
          exact (hC a j (by omega) (by omega) (by omega) (by omega)).2 (s4 j (by omega) (by omega))
        · rw [if_neg ei, if_neg (by omega)]; exact hR _ _ (by omega) (by omega) (by omega)
    · rw [if_neg c1]
      by_cases c2 : b - m = 1
      · rw [if_pos c2]
        obtain ⟨s1, s2, s3, s4⟩ := search_spec (fun h => !lt d[m]! d[h]!) (m - a) a m rfl (by omega) (fun h h' k1 k2 k3 hp => by
          have t := hC h' m (by omega) (by omega) (by omega) (by omega)
          have hp' : lt d[m]! d[h']! = false := by simpa using hp
          have := (hC h m (by omega) (by omega) (by omega) (by omega)).no O (hL.le O k1 k2 k3 (t.2 hp'))
          simpa using this)
        generalize search (fun h => !lt d[m]! d[h]!) a m = s at *
        obtain ⟨g1, g2, g3⟩ := shiftDown_spec s m d s2 (by omega)
        refine ⟨g3 a b s1 hmb hs, fun i j h1 h2 h3 => ?_⟩
        rw [g2 i, g2 j]
        by_cases ci : s < i ∧ i ≤ m
        · rw [if_pos ci, if_pos (by omega)]; exact hL _ _ (by omega) (by omega) (by omega)
        · rw [if_neg ci]
          by_cases ei : i = s
          · rw [if_pos ei, if_pos (by omega)]
            have hq := s4 (j - 1) (by omega) (by omega)
            exact (hC (j - 1) m (by omega) (by omega) (by omega) (by omega)).1 (by simpa using hq)
          · rw [if_neg ei]
            by_cases cj : s < j ∧ j ≤ m
            · rw [if_pos cj]; exact hL _ _ (by omega) (by omega) (by omega)
            · rw [if_neg cj]
              by_cases ej : j = s
              · rw [if_pos ej]
                have hq := s3 i (by omega) (by omega)
                exact (hC i m (by omega) (by omega) (by omega) (by omega)).2 (by simpa using hq)
              · rw [if_neg ej]; exact hL _ _ (by omega) (by omega) (by omega)
      · rw [if_neg c2]
        dsimp only
        obtain ⟨mid, hmid⟩ : ∃ mid, mid = (a + b) / 2 := ⟨_, rfl⟩
        have hmd1 : a < mid := by omega
        have hmd2 : mid < b := by omega
        -- where the halves part
        have hmono : ∀ h h', (if mid < m then mid + m - b else a) ≤ h → h ≤ h' → h' < (if mid < m then mid else m) → (!lt d[mid + m - 1 - h']! d[h']!) = true → (!lt d[mid + m - 1 - h]! d[h]!) = true := by
          intro h h' k1 k2 k3 hp
          have k1' : a ≤ h ∧ mid + m - 1 - h < b := by split at k1 <;> omega
          have k3' : h' < m ∧ m ≤ mid + m - 1 - h' := by split at k3 <;> omega
          have t := hC h' (mid + m - 1 - h') (by omega) (by omega) (by omega) (by omega)
          have hp' : lt d[mid + m - 1 - h']! d[h']! = false := by simpa using hp
          have u := hL.le O k1'.1 k2 k3'.1 (t.2 hp')
          have u2 := hR.ge O (i := mid + m - 1 - h') (j := mid + m - 1 - h) (by omega) (by omega) k1'.2 u
          have := (hC h (mid + m - 1 - h) (by omega) (by omega) (by omega) (by omega)).no O u2
          simpa using this
        obtain ⟨s1, s2, s3, s4⟩ := search_spec (fun c => !lt d[mid + m - 1 - c]! d[c]!) _ (if mid < m then mid + m - b else a) (if mid < m then mid else m) rfl (by split <;> omega) hmono
        have hsd : symStart lt d a m b = search (fun c => !lt d[mid + m - 1 - c]! d[c]!) (if mid < m then mid + m - b else a) (if mid < m then mid else m) := by rw [symStart, hmid]
        rw [← hsd] at s1 s2 s3 s4
        generalize symStart lt d a m b = s at *
        clear hsd hmono
        rw [← hmid]
        obtain ⟨e, he⟩ : ∃ e, e = mid + m - s := ⟨_, rfl⟩
        rw [← he]
        have b1 : a ≤ s ∧ s ≤ mid ∧ s ≤ m ∧ m ≤ e ∧ e ≤ b ∧ mid ≤ e := by
          split at s1 <;> split at s2 <;> omega
        obtain ⟨as_, smid, sm, me, eb, mide⟩ := b1
        -- the rotation
        obtain ⟨d1, hd1⟩ : ∃ d1, d1 = symRot d s m e := ⟨_, rfl⟩
        have hrot : d1.size = d.size ∧ (∀ k, d1[k]! = if s ≤ k ∧ k < mid then d[k + (m - s)]! else if mid ≤ k ∧ k < e then d[k - (e - m)]! else d[k]!) ∧ PermIn a b d d1 := by
          rw [hd1, symRot]
          by_cases cr : s < m ∧ m < e
          · rw [if_pos cr]
            obtain ⟨g1, g2, g3⟩ := rot_spec m (m - s + (e - m)) (m - s) (e - m) d rfl (by omega) (by omega) (by omega) (by omega)
            refine ⟨g1, fun k => ?_, g3 a b (by omega) (by omega) hs⟩
            rw [g2 k]
            have e1 : m - (m - s) = s := by omega
            have e2 : s + (e - m) = mid := by omega
            have e3 : m + (e - m) = e := by omega
            rw [e1, e2, e3]
          · rw [if_neg cr]
            refine ⟨rfl, fun k => ?_, permIn_refl d a b⟩
            by_cases q1 : s ≤ k ∧ k < mid
            · rw [if_pos q1]; congr 1; omega
            · rw [if_neg q1]
              by_cases q2 : mid ≤ k ∧ k < e
              · rw [if_pos q2]; congr 1; omega
              · rw [if_neg q2]
        rw [← hd1]
        clear hd1
        obtain ⟨z1, z2, z3⟩ := hrot
        -- all of the left half are ahead of all of the right half
        have hcross : ∀ i j, a ≤ i → i < mid → mid ≤ j → j < b → T d1[i]! d1[j]! := by
          intro i j h1 h2 h3 h4
          rw [z2 i, z2 j, if_neg (show ¬ (s ≤ j ∧ j < mid) by omega)]
          by_cases ci : s ≤ i ∧ i < mid
          · rw [if_pos ci]
            by_cases cj : mid ≤ j ∧ j < e
            · rw [if_pos cj]
              -- an element of R ahead of one of L
              have r0 : s < (if mid < m then mid else m) := by split <;> omega
              have hq := s4 s (Nat.le_refl _) r0
              have hq' : lt d[mid + m - 1 - s]! d[s]! = true := by simpa using hq
              have t := (hC s (mid + m - 1 - s) (by omega) (by omega) (by omega) (by omega)).1 hq'
              have t2 := hL.ge O (i := s) (j := j - (e - m)) (by omega) (by omega) (by omega) t
              exact hR.le O (i := i + (m - s)) (j := mid + m - 1 - s) (by omega) (by omega) (by omega) t2
            · rw [if_neg cj]
              exact hR _ _ (by omega) (by omega) (by omega)
          · rw [if_neg ci, if_neg (show ¬ (mid ≤ i ∧ i < e) by omega)]
            by_cases cj : mid ≤ j ∧ j < e
            · rw [if_pos cj]
              exact hL _ _ (by omega) (by omega) (by omega)
            · rw [if_neg cj]
              have l0 : (if mid < m then mid + m - b else a) ≤ s - 1 := by split at s1 <;> split <;> omega
              have hq := s3 (s - 1) l0 (by omega)
              have hq' : lt d[mid + m - 1 - (s - 1)]! d[s - 1]! = false := by simpa using hq
              have t := (hC (s - 1) (mid + m - 1 - (s - 1)) (by omega) (by omega) (by omega) (by omega)).2 hq'
              have t2 := hL.le O (i := i) (j := s - 1) h1 (by omega) (by omega) t
              exact hR.ge O (i := mid + m - 1 - (s - 1)) (j := j) (by omega) (by omega) h4 t2
        -- the left half
        have hleft : ∀ d2, d2 = (if a < s ∧ s < mid then symMerge lt f d1 a s mid else d1) → PermIn a mid d1 d2 ∧ Up T a mid d2 := by
          intro d2 hd2
          have l1 : Up T a s d1 := fun i j h1 h2 h3 => by
            rw [z2 i, z2 j, if_neg (by omega), if_neg (by omega), if_neg (by omega), if_neg (by omega)]; exact hL i j h1 h2 (by omega)
          have l2 : Up T s mid d1 := fun i j h1 h2 h3 => by
            rw [z2 i, z2 j, if_pos (by omega), if_pos (by omega)]; exact hR _ _ (by omega) (by omega) (by omega)
          by_cases c : a < s ∧ s < mid
          · rw [if_pos c] at hd2
            rw [hd2]
            refine ih a s mid d1 (by omega) c.1 c.2 (by omega) l1 l2 (fun p q h1 h2 h3 h4 => ?_)
            rw [z2 p, z2 q, if_neg (by omega), if_neg (by omega), if_pos (by omega)]
            exact hC p (q + (m - s)) h1 (by omega) (by omega) (by omega)
          · rw [if_neg c] at hd2
            rw [hd2]
            refine ⟨permIn_refl _ _ _, ?_⟩
            by_cases c3 : a < s
            · exact fun i j h1 h2 h3 => l1 i j h1 h2 (by omega)
            · exact fun i j h1 h2 h3 => l2 i j (by omega) h2 h3
        obtain ⟨d2, hd2⟩ : ∃ d2, d2 = (if a < s ∧ s < mid then symMerge lt f d1 a s mid else d1) := ⟨_, rfl⟩
        rw [← hd2]
        obtain ⟨p2, u2⟩ := hleft d2 hd2
        clear hleft hd2
        have same2 : ∀ k, mid ≤ k → d2[k]! = d1[k]! := fun k hk => p2.2.1 k (.inr hk)
        have size2 : d2.size = d1.size := p2.1
        have hright : ∀ d3, d3 = (if mid < e ∧ e < b then symMerge lt f d2 mid e b else d2) → PermIn mid b d2 d3 ∧ Up T mid b d3 := by
          intro d3 hd3
          have l1 : Up T mid e d2 := fun i j h1 h2 h3 => by
            rw [same2 i (by omega), same2 j (by omega), z2 i, z2 j, if_neg (by omega), if_pos (by omega), if_neg (by omega), if_pos (by omega)]; exact hL _ _ (by omega) (by omega) (by omega)
          have l2 : Up T e b d2 := fun i j h1 h2 h3 => by
            rw [same2 i (by omega), same2 j (by omega), z2 i, z2 j, if_neg (by omega), if_neg (by omega), if_neg (by omega), if_neg (by omega)]; exact hR _ _ (by omega) (by omega) (by omega)
          by_cases c : mid < e ∧ e < b
          · rw [if_pos c] at hd3
            rw [hd3]
            refine ih mid e b d2 (by omega) c.1 c.2 (by omega) l1 l2 (fun p q h1 h2 h3 h4 => ?_)
            rw [same2 p (by omega), same2 q (by omega), z2 p, z2 q, if_neg (by omega), if_pos (by omega), if_neg (by omega), if_neg (by omega)]
            exact hC _ q (by omega) (by omega) (by omega) h4
          · rw [if_neg c] at hd3
            rw [hd3]
            refine ⟨permIn_refl _ _ _, ?_⟩
            by_cases c3 : mid < e
            · exact fun i j h1 h2 h3 => l1 i j h1 h2 (by omega)
            · exact fun i j h1 h2 h3 => l2 i j (by omega) h2 h3
        obtain ⟨d3, hd3⟩ : ∃ d3, d3 = (if mid < e ∧ e < b then symMerge lt f d2 mid e b else d2) := ⟨_, rfl⟩
        rw [← hd3]
        obtain ⟨p3, u3⟩ := hright d3 hd3
        have P2 := permIn_mono d1 d2 a mid a b (Nat.le_refl _) (by omega) (by omega) p2
        have P3 := permIn_mono d2 d3 mid b a b (by omega) (Nat.le_refl _) (by omega) p3
        refine ⟨permIn_trans _ _ _ _ _ z3 (permIn_trans _ _ _ _ _ P2 P3), fun i j h1 h2 h3 => ?_⟩
        by_cases ci : j < mid
        · rw [p3.2.1 i (.inl (by omega)), p3.2.1 j (.inl ci)]
          exact u2 i j h1 h2 ci
        · by_cases cj : mid ≤ i
          · exact u3 i j cj h2 h3
          · rw [p3.2.1 i (.inl (by omega))]
            refine permIn_all d2 d3 mid b (fun y => T d2[i]! y) (by omega) p3 (fun q q1 q2 => ?_) j (by omega) h3
            rw [same2 q q1]
            exact permIn_all d1 d2 a mid (fun x => T x d1[q]!) (by omega) p2 (fun p k1 k2 => hcross p q k1 k2 q1 q2) i h1 (by omega)

/-! ### insertionSort, by an order of its own -/
structure InsT (lt : α → α → Bool) (T : α → α → Prop) (a j i : Nat) (d : Array α) : Prop where
  rest : ∀ p q, a ≤ p → p < q → q ≤ i → p ≠ j → q ≠ j → T d[p]! d[q]!
  right : ∀ q, j < q → q ≤ i → T d[j]! d[q]!
  tells : ∀ p, a ≤ p → p < j → Tells lt T d[p]! d[j]!

theorem InsT.stop {T : α → α → Prop} (O : Ord T) {a j i : Nat} {d : Array α} (h : InsT lt T a j i d) (hs : j ≤ a ∨ lt d[j]! d[j - 1]! = false) : Up T a (i + 1) d := by
  intro p q hap hpq hqi
  by_cases hq : q = j
  · subst hq
    rcases hs with hs | hs
    · omega
    · have t := (h.tells (q - 1) (by omega) (by omega)).2 hs
      by_cases hp : p = q - 1
      · subst hp; exact t
      · exact O.trans _ _ _ (h.rest p (q - 1) hap (by omega) (by omega) (by omega) (by omega)) t
  · by_cases hp : p = j
    · subst hp; exact h.right q hpq (by omega)
    · exact h.rest p q hap hpq (by omega) hp hq

theorem InsT.step {T : α → α → Prop} {a j i : Nat} {d : Array α} (h : InsT lt T a (j + 1) i d) (hl : lt d[j + 1]! d[j]! = true) (haj : a ≤ j) (hsz : j + 1 < d.size) : InsT lt T a j i (swp d (j + 1) j) := by
  have g := swp_get d hsz (show j < d.size by omega)
  constructor
  · intro p q hap hpq hqi hp hq
    rw [g, g]
    by_cases hq1 : q = j + 1
    · subst hq1
      simp only [hq, hp, if_false, if_true, show p ≠ j + 1 by omega]
      exact h.rest p j hap (by omega) (by omega) (by omega) (by omega)
    · by_cases hp1 : p = j + 1
      · subst hp1
        simp only [hq, hp, hq1, if_false, if_true]
        exact h.rest j q haj (by omega) hqi (by omega) hq1
      · simp only [hq, hp, hq1, hp1, if_false]
        exact h.rest p q hap hpq hqi hp1 hq1
  · intro q hjq hqi
    rw [g, g]
    by_cases hq1 : q = j + 1
    · subst hq1
      simpa [show j + 1 ≠ j by omega] using (h.tells j haj (by omega)).1 hl
    · simp only [if_true, show q ≠ j by omega, hq1, if_false]
      exact h.right q (by omega) hqi
  · intro p hap hpj
    rw [g, g]
    simp only [if_true, show p ≠ j by omega, show p ≠ j + 1 by omega, if_false]
    exact h.tells p hap (by omega)

theorem insInner_T {T : α → α → Prop} (O : Ord T) (a i : Nat) : ∀ (j : Nat) (d : Array α), a ≤ j → j ≤ i → i < d.size → InsT lt T a j i d → PermIn a (i + 1) d (insInner lt a j d) ∧ Up T a (i + 1) (insInner lt a j d)
  | 0, d, _, _, _, hI => by
    unfold insInner
    exact ⟨permIn_refl d a _, hI.stop O (Or.inl (Nat.zero_le _))⟩
  | j + 1, d, haj, hji, hb, hI => by
    unfold insInner
    split
    · rename_i hc
      simp only [Bool.and_eq_true, decide_eq_true_eq] at hc
      have ih := insInner_T O a i j (swp d (j + 1) j) (by omega) (by omega) (by rw [swp_size]; exact hb) (hI.step hc.2 (by omega) (by omega))
      exact ⟨permIn_trans _ _ _ _ _ (permIn_swp d (by omega) (by omega) (by omega) (by omega) (by omega)) ih.1, ih.2⟩
    · rename_i hc
      simp only [Bool.and_eq_true, decide_eq_true_eq, not_and, Bool.not_eq_true] at hc
      refine ⟨permIn_refl d a _, hI.stop O ?_⟩
      by_cases h : j + 1 > a
      · exact Or.inr (by simpa using hc h)
      · exact Or.inl (by omega)

/-- Where an element behind a permutation stood. -/
theorem permIn_src {a b : Nat} {d d' : Array α} (hb : b ≤ d.size) (h : PermIn a b d d') (i : Nat) : ∃ k, d'[i]! = d[k]! ∧ (a ≤ i → i < b → a ≤ k ∧ k < b) ∧ (¬ (a ≤ i ∧ i < b) → k = i) := by
  by_cases c : a ≤ i ∧ i < b
  · obtain ⟨k, k1, k2, e⟩ := permIn_all d d' a b (fun y => ∃ k, a ≤ k ∧ k < b ∧ y = d[k]!) hb h (fun k k1 k2 => ⟨k, k1, k2, rfl⟩) i c.1 c.2
    exact ⟨k, e, fun _ _ => ⟨k1, k2⟩, fun hn => absurd c hn⟩
  · exact ⟨i, h.2.1 i (by omega), fun h1 h2 => absurd ⟨h1, h2⟩ c, fun _ => rfl⟩

theorem insOuter_T {T : α → α → Prop} (O : Ord T) (a b : Nat) : ∀ (n i : Nat) (d : Array α), b - i = n → a < i → i ≤ b → b ≤ d.size → Up T a i d → (∀ p q, a ≤ p → p < q → i ≤ q → q < b → Tells lt T d[p]! d[q]!) →
    PermIn a b d (insOuter lt a b i d) ∧ Up T a b (insOuter lt a b i d)
  | 0, i, d, hn, _, hib, _, hs, _ => by
    obtain rfl : i = b := by omega
    rw [insOuter, if_neg (by omega)]
    exact ⟨permIn_refl d a i, hs⟩
  | n + 1, i, d, hn, hai, hib, hb, hs, ht => by
    have hlt : i < b := by omega
    rw [insOuter, if_pos hlt]
    have h1 := insInner_T (lt := lt) O a i i d (by omega) (Nat.le_refl _) (by omega) ⟨fun p q hap hpq hqi _ hq => hs p q hap hpq (by omega), fun q h1 h2 => by omega, fun p h1 h2 => ht p i h1 h2 (Nat.le_refl _) hlt⟩
    have h2 := insOuter_T O a b n (i + 1) (insInner lt a i d) (by omega) (by omega) (by omega) (by rw [h1.1.1]; exact hb) h1.2 (fun p q h3 h4 h5 h6 => by
      obtain ⟨k, e, k1, k2⟩ := permIn_src (by omega) h1.1 p
      rw [e, h1.1.2.1 q (.inr (by omega))]
      by_cases c : p < i + 1
      · have := k1 h3 c; exact ht k q this.1 (by omega) (by omega) h6
      · rw [k2 (by omega)]; exact ht p q h3 h4 (by omega) h6)
    exact ⟨permIn_trans _ _ _ _ _ (permIn_mono _ _ _ _ _ _ (Nat.le_refl _) (by omega) hb h1.1) h2.1, h2.2⟩

theorem insertionSort_T {T : α → α → Prop} (O : Ord T) (d : Array α) (a b : Nat) (hab : a ≤ b) (hb : b ≤ d.size) (ht : ∀ p q, a ≤ p → p < q → q < b → Tells lt T d[p]! d[q]!) :
    PermIn a b d (insertionSort lt d a b) ∧ Up T a b (insertionSort lt d a b) := by
  unfold insertionSort
  by_cases h : a = b
  · subst h
    rw [insOuter, if_neg (by omega)]
    exact ⟨permIn_refl d a a, fun i j h1 h2 h3 => by omega⟩
  · exact insOuter_T O a b (b - (a + 1)) (a + 1) d rfl (by omega) (by omega) hb (fun i j h1 h2 h3 => by omega) (fun p q h1 h2 h3 h4 => ht p q h1 h2 h4)

/-! ### The blocks, the passes -/
def Al (s x : Nat) : Prop := ∃ c, x = c * s
theorem Al.zero (s : Nat) : Al s 0 := ⟨0, by simp⟩
theorem Al.next {s x : Nat} (h : Al s x) : Al s (x + s) := by obtain ⟨c, rfl⟩ := h; exact ⟨c + 1, by rw [Nat.succ_mul]⟩
theorem Al.half {s x : Nat} (h : Al (2 * s) x) : Al s x := by obtain ⟨c, rfl⟩ := h; exact ⟨c * 2, by rw [Nat.mul_assoc]⟩
theorem Al.cmp {s x y : Nat} (hx : Al s x) (hy : Al s y) : x < y → x + s ≤ y := by
  obtain ⟨c, rfl⟩ := hx
  obtain ⟨e, rfl⟩ := hy
  intro h
  have : c < e := by
    rcases Nat.lt_or_ge c e with h1 | h1
    · exact h1
    · exact absurd (Nat.mul_le_mul_right s h1) (by omega)
  calc c * s + s = (c + 1) * s := by rw [Nat.succ_mul]
    _ ≤ e * s := Nat.mul_le_mul_right s this

/-- The row in blocks of s, each rising; of unlike blocks 'less' tells. -/
structure Blk (lt : α → α → Bool) (T : α → α → Prop) (s n : Nat) (d : Array α) : Prop where
  up : ∀ x, Al s x → ∀ i j, x ≤ i → i < j → j < x + s → j < n → T d[i]! d[j]!
  tells : ∀ x, Al s x → ∀ i j, i < x → x ≤ j → j < n → Tells lt T d[i]! d[j]!

structure BInv (lt : α → α → Bool) (T : α → α → Prop) (s n a : Nat) (d : Array α) : Prop where
  al : Al s a
  up : ∀ x, Al s x → x + s ≤ a → ∀ i j, x ≤ i → i < j → j < x + s → T d[i]! d[j]!
  tells : ∀ x, Al s x → ∀ i j, i < x → x ≤ j → j < n → Tells lt T d[i]! d[j]!
  rest : ∀ i j, a ≤ i → i < j → j < n → Tells lt T d[i]! d[j]!

theorem blocks_spec {T : α → α → Prop} (O : Ord T) (s n : Nat) (hs0 : 0 < s) : ∀ (q a : Nat) (d : Array α), n - a = q → a ≤ n → n = d.size → BInv lt T s n a d →
    PermIn 0 n d (blocks lt s n a d) ∧ Blk lt T s n (blocks lt s n a d) := by
  intro q
  induction q using Nat.strongRecOn with
  | _ q ih =>
    intro a d hq han hn I
    rw [blocks]
    by_cases c : 0 < s ∧ a + s ≤ n
    · rw [dif_pos c]
      obtain ⟨p1, u1⟩ := insertionSort_T (lt := lt) O d a (a + s) (by omega) (by omega) (fun p q h1 h2 h3 => I.rest p q h1 h2 (by omega))
      generalize insertionSort lt d a (a + s) = d1 at p1 u1
      obtain ⟨p2, u2⟩ := ih (n - (a + s)) (by omega) (a + s) d1 rfl c.2 (by rw [p1.1]; exact hn) {
        al := I.al.next
        up := fun x hx hxa i j h1 h2 h3 => by
          by_cases e : x = a
          · subst e; exact u1 i j h1 h2 h3
          · have hlt : x < a := by omega
            have := hx.cmp I.al hlt
            rw [p1.2.1 i (.inl (by omega)), p1.2.1 j (.inl (by omega))]
            exact I.up x hx this i j h1 h2 h3
        tells := fun x hx i j h1 h2 h3 => by
          obtain ⟨k, e, k1, k2⟩ := permIn_src (by omega) p1 i
          obtain ⟨l, f, l1, l2⟩ := permIn_src (by omega) p1 j
          rw [e, f]
          have hx2 : x ≤ a ∨ a + s ≤ x := by
            rcases Nat.lt_or_ge a x with h | h
            · exact .inr (I.al.cmp hx h)
            · exact .inl h
          refine I.tells x hx k l ?_ ?_ ?_
          · by_cases c3 : a ≤ i ∧ i < a + s
            · have := k1 c3.1 c3.2; omega
            · rw [k2 c3]; exact h1
          · by_cases c3 : a ≤ j ∧ j < a + s
            · have := l1 c3.1 c3.2; omega
            · rw [l2 c3]; exact h2
          · by_cases c3 : a ≤ j ∧ j < a + s
            · have := l1 c3.1 c3.2; omega
            · rw [l2 c3]; exact h3
        rest := fun i j h1 h2 h3 => by rw [p1.2.1 i (.inr h1), p1.2.1 j (.inr (by omega))]; exact I.rest i j (by omega) h2 h3 }
      exact ⟨permIn_trans _ _ _ _ _ (permIn_mono _ _ _ _ _ _ (Nat.zero_le _) c.2 (by omega) p1) p2, u2⟩
    · rw [dif_neg c]
      obtain ⟨p1, u1⟩ := insertionSort_T (lt := lt) O d a n han (by omega) (fun p q h1 h2 h3 => I.rest p q h1 h2 h3)
      generalize insertionSort lt d a n = d1 at p1 u1
      refine ⟨permIn_mono _ _ _ _ _ _ (Nat.zero_le _) (Nat.le_refl _) (by omega) p1, ?_, ?_⟩
      · intro x hx i j h1 h2 h3 h4
        by_cases e : a ≤ x
        · exact u1 i j (by omega) h2 h4
        · have := hx.cmp I.al (by omega)
          rw [p1.2.1 i (.inl (by omega)), p1.2.1 j (.inl (by omega))]
          exact I.up x hx this i j h1 h2 h3
      · intro x hx i j h1 h2 h3
        obtain ⟨k, e, k1, k2⟩ := permIn_src (by omega) p1 i
        obtain ⟨l, f, l1, l2⟩ := permIn_src (by omega) p1 j
        rw [e, f]
        have hx2 : x ≤ a ∨ a + s ≤ x := by
          rcases Nat.lt_or_ge a x with h | h
          · exact .inr (I.al.cmp hx h)
          · exact .inl h
        refine I.tells x hx k l ?_ ?_ ?_
        · by_cases c3 : a ≤ i ∧ i < n
          · have := k1 c3.1 c3.2; omega
          · rw [k2 c3]; exact h1
        · by_cases c3 : a ≤ j ∧ j < n
          · have := l1 c3.1 c3.2; omega
          · rw [l2 c3]; exact h2
        · by_cases c3 : a ≤ j ∧ j < n
          · exact (l1 c3.1 c3.2).2
          · rw [l2 c3]; exact h3

structure PInv (lt : α → α → Bool) (T : α → α → Prop) (s n a : Nat) (d : Array α) : Prop where
  al : Al (2 * s) a
  done : ∀ x, Al (2 * s) x → x + 2 * s ≤ a → ∀ i j, x ≤ i → i < j → j < x + 2 * s → T d[i]! d[j]!
  up : ∀ x, Al s x → a ≤ x → ∀ i j, x ≤ i → i < j → j < x + s → j < n → T d[i]! d[j]!
  tells : ∀ x, Al (2 * s) x → ∀ i j, i < x → x ≤ j → j < n → Tells lt T d[i]! d[j]!
  rest : ∀ x, Al s x → a ≤ x → ∀ i j, a ≤ i → i < x → x ≤ j → j < n → Tells lt T d[i]! d[j]!

theorem pass_spec {T : α → α → Prop} (O : Ord T) (s n : Nat) (hs0 : 0 < s) : ∀ (q a : Nat) (d : Array α), n - a = q → a ≤ n → n = d.size → PInv lt T s n a d →
    PermIn 0 n d (pass lt s n a d) ∧ Blk lt T (2 * s) n (pass lt s n a d) := by
  intro q
  induction q using Nat.strongRecOn with
  | _ q ih =>
    intro a d hq han hn I
    have tells' : ∀ (b : Nat) (d1 : Array α), b ≤ n → (∀ x, Al (2 * s) x → a < x → b ≤ x ∨ n ≤ x) → PermIn a b d d1 → ∀ x, Al (2 * s) x → ∀ i j, i < x → x ≤ j → j < n → Tells lt T d1[i]! d1[j]! := by
      intro b d1 hbn hal p1 x hx i j h1 h2 h3
      obtain ⟨k, e, k1, k2⟩ := permIn_src (by omega) p1 i
      obtain ⟨l, f, l1, l2⟩ := permIn_src (by omega) p1 j
      rw [e, f]
      have hx2 : x ≤ a ∨ b ≤ x ∨ n ≤ x := by
        rcases Nat.lt_or_ge a x with h | h
        · exact .inr (hal x hx h)
        · exact .inl h
      refine I.tells x hx k l ?_ ?_ ?_
      · by_cases c3 : a ≤ i ∧ i < b
        · have := k1 c3.1 c3.2; omega
        · rw [k2 c3]; exact h1
      · by_cases c3 : a ≤ j ∧ j < b
        · have := l1 c3.1 c3.2; omega
        · rw [l2 c3]; exact h2
      · by_cases c3 : a ≤ j ∧ j < b
        · have := l1 c3.1 c3.2; omega
        · rw [l2 c3]; exact h3
    have alh : Al s a := I.al.half
    rw [pass]
    by_cases c : 0 < s ∧ a + 2 * s ≤ n
    · rw [dif_pos c]
      obtain ⟨p1, u1⟩ := symMerge_spec (lt := lt) O n a (a + s) (a + 2 * s) d (by omega) (by omega) (by omega) (by omega)
        (fun i j h1 h2 h3 => I.up a alh (Nat.le_refl _) i j h1 h2 h3 (by omega)) (fun i j h1 h2 h3 => I.up (a + s) alh.next (by omega) i j h1 h2 (by omega) (by omega))
        (fun p q h1 h2 h3 h4 => I.rest (a + s) alh.next (by omega) p q h1 h2 h3 (by omega))
      generalize symMerge lt n d a (a + s) (a + 2 * s) = d1 at p1 u1
      obtain ⟨p2, u2⟩ := ih (n - (a + 2 * s)) (by omega) (a + 2 * s) d1 rfl c.2 (by rw [p1.1]; exact hn) {
        al := I.al.next
        done := fun x hx hxa i j h1 h2 h3 => by
          by_cases e : x = a
          · subst e; exact u1 i j h1 h2 h3
          · have := hx.cmp I.al (by omega)
            rw [p1.2.1 i (.inl (by omega)), p1.2.1 j (.inl (by omega))]
            exact I.done x hx this i j h1 h2 h3
        up := fun x hx hxa i j h1 h2 h3 h4 => by
          rw [p1.2.1 i (.inr (by omega)), p1.2.1 j (.inr (by omega))]
          exact I.up x hx (by omega) i j h1 h2 h3 h4
        tells := tells' (a + 2 * s) d1 c.2 (fun x hx h => .inl (I.al.cmp hx h)) p1
        rest := fun x hx hxa i j h1 h2 h3 h4 => by
          rw [p1.2.1 i (.inr (by omega)), p1.2.1 j (.inr (by omega))]
          exact I.rest x hx (by omega) i j (by omega) h2 h3 h4 }
      exact ⟨permIn_trans _ _ _ _ _ (permIn_mono _ _ _ _ _ _ (Nat.zero_le _) c.2 (by omega) p1) p2, u2⟩
    · rw [dif_neg c]
      have fin : ∀ d1, PermIn a n d d1 → Up T a n d1 → PermIn 0 n d d1 ∧ Blk lt T (2 * s) n d1 := by
        intro d1 p1 u1
        refine ⟨permIn_mono _ _ _ _ _ _ (Nat.zero_le _) (Nat.le_refl _) (by omega) p1, fun x hx i j h1 h2 h3 h4 => ?_, tells' n d1 (Nat.le_refl _) (fun x hx h => .inr (by have := I.al.cmp hx h; omega)) p1⟩
        by_cases e : a ≤ x
        · exact u1 i j (by omega) h2 h4
        · have := hx.cmp I.al (by omega)
          rw [p1.2.1 i (.inl (by omega)), p1.2.1 j (.inl (by omega))]
          exact I.done x hx this i j h1 h2 h3
      by_cases c2 : a + s < n
      · rw [if_pos c2]
        obtain ⟨p1, u1⟩ := symMerge_spec (lt := lt) O n a (a + s) n d (by omega) (by omega) c2 (by omega)
          (fun i j h1 h2 h3 => I.up a alh (Nat.le_refl _) i j h1 h2 h3 (by omega)) (fun i j h1 h2 h3 => I.up (a + s) alh.next (by omega) i j h1 h2 (by omega) (by omega))
          (fun p q h1 h2 h3 h4 => I.rest (a + s) alh.next (by omega) p q h1 h2 h3 (by omega))
        exact fin _ p1 u1
      · rw [if_neg c2]
        exact fin d (permIn_refl _ _ _) (fun i j h1 h2 h3 => I.up a alh (Nat.le_refl _) i j h1 h2 (by omega) h3)

theorem passes_spec {T : α → α → Prop} (O : Ord T) (n : Nat) : ∀ (q s : Nat) (d : Array α), n - s = q → 0 < s → n = d.size → Blk lt T s n d → PermIn 0 n d (passes lt s n d) ∧ Up T 0 n (passes lt s n d) := by
  intro q
  induction q using Nat.strongRecOn with
  | _ q ih =>
    intro s d hq hs0 hn B
    rw [passes]
    by_cases c : 0 < s ∧ s < n
    · rw [dif_pos c]
      obtain ⟨p1, b1⟩ := pass_spec (lt := lt) O s n hs0 n 0 d (by omega) (Nat.zero_le _) hn {
        al := Al.zero _
        done := fun x hx h => by omega
        up := fun x hx _ i j h1 h2 h3 h4 => B.up x hx i j h1 h2 h3 h4
        tells := fun x hx i j h1 h2 h3 => B.tells x hx.half i j h1 h2 h3
        rest := fun x hx _ i j _ h2 h3 h4 => B.tells x hx i j h2 h3 h4 }
      obtain ⟨p2, u2⟩ := ih (n - 2 * s) (by omega) (2 * s) (pass lt s n 0 d) rfl (by omega) (by rw [p1.1]; exact hn) b1
      exact ⟨permIn_trans _ _ _ _ _ p1 p2, u2⟩
    · rw [dif_neg c]
      exact ⟨permIn_refl _ _ _, fun i j h1 h2 h3 => B.up 0 (Al.zero _) i j h1 h2 (by omega) h3⟩

/-- slices.SortStableFunc: a permutation that rises by T, where 'less' tells of the row's earlier and later ones. -/
theorem stable_spec {T : α → α → Prop} (O : Ord T) (d : Array α) (ht : ∀ i j, i < j → j < d.size → Tells lt T d[i]! d[j]!) : PermIn 0 d.size d (stable lt d) ∧ Up T 0 d.size (stable lt d) := by
  unfold stable
  obtain ⟨p1, b1⟩ := blocks_spec (lt := lt) O 20 d.size (by omega) d.size 0 d (by omega) (Nat.zero_le _) rfl {
    al := Al.zero _
    up := fun x hx h => by omega
    tells := fun x hx i j h1 h2 h3 => ht i j (by omega) h3
    rest := fun i j _ h2 h3 => ht i j h2 h3 }
  obtain ⟨p2, u2⟩ := passes_spec (lt := lt) O d.size (d.size - 20) 20 (blocks lt 20 d.size 0 d) rfl (by omega) p1.1.symm b1
  exact ⟨permIn_trans _ _ _ _ _ p1 p2, u2⟩

/-! ### Sizes -/
theorem size_swapFrom (a b n : Nat) : ∀ (q i : Nat) (d : Array α), n - i = q → (swapFrom a b n i d).size = d.size := by
  intro q
  induction q with
  | zero => intro i d h; rw [swapFrom, if_neg (by omega)]
  | succ q ih => intro i d h; rw [swapFrom, if_pos (by omega), ih (i + 1) _ (by omega), size_swp]
theorem size_rot (m : Nat) : ∀ (q i j : Nat) (d : Array α), i + j = q → (rot m i j d).size = d.size := by
  intro q
  induction q using Nat.strongRecOn with
  | _ q ih =>
    intro i j d h
    rw [rot]
    split
    · rfl
    · split
      · exact size_swapFrom _ _ _ _ _ _ rfl
      · split
        · rw [ih (i - j + j) (by omega) _ _ _ rfl, size_swapFrom _ _ _ _ _ _ rfl]
        · rw [ih (i + (j - i)) (by omega) _ _ _ rfl, size_swapFrom _ _ _ _ _ _ rfl]
theorem size_shiftUp (e : Nat) : ∀ (q k : Nat) (d : Array α), e - k = q → (shiftUp k e d).size = d.size := by
  intro q
  induction q with
  | zero => intro k d h; rw [shiftUp, if_neg (by omega)]
  | succ q ih =>
    intro k d h
    rw [shiftUp]
    split
    · rw [ih (k + 1) _ (by omega), size_swp]
    · rfl
theorem size_shiftDown (i : Nat) : ∀ (k : Nat) (d : Array α), (shiftDown i k d).size = d.size
  | 0, d => by rw [shiftDown]
  | k + 1, d => by
    rw [shiftDown]
    split
    · rw [size_shiftDown i k, size_swp]
    · rfl
theorem size_symRot (d : Array α) (s m e : Nat) : (symRot d s m e).size = d.size := by
  unfold symRot
  split
  · exact size_rot _ _ _ _ _ rfl
  · rfl
theorem size_symMerge : ∀ (f : Nat) (d : Array α) (a m b : Nat), (symMerge lt f d a m b).size = d.size
  | 0, d, a, m, b => by rw [symMerge]
  | f + 1, d, a, m, b => by
    rw [symMerge]
    split
    · exact size_shiftUp _ _ _ _ rfl
    · split
      · exact size_shiftDown _ _ _
      · dsimp only
        split <;> (try rw [size_symMerge f]) <;> split <;> (try rw [size_symMerge f]) <;> exact size_symRot _ _ _ _
theorem size_insInner (a : Nat) : ∀ (j : Nat) (d : Array α), (insInner lt a j d).size = d.size
  | 0, d => by rw [insInner]
  | j + 1, d => by
    rw [insInner]
    split
    · rw [size_insInner a j, size_swp]
    · rfl
theorem size_insOuter (a b : Nat) : ∀ (q i : Nat) (d : Array α), b - i = q → (insOuter lt a b i d).size = d.size := by
  intro q
  induction q with
  | zero => intro i d h; rw [insOuter, if_neg (by omega)]
  | succ q ih => intro i d h; rw [insOuter, if_pos (by omega), ih (i + 1) _ (by omega), size_insInner]
theorem size_insertionSort (d : Array α) (a b : Nat) : (insertionSort lt d a b).size = d.size := size_insOuter a b _ _ _ rfl

end Go.Proofs.Ytjcfhgpaipbedaa.St
