/-
  Plain facts, with no program in sight: the waiting copies of a net as a list, its order, and the steps of a binary heap over it.
-/
import Init
namespace Go.Proofs.Ytmhkdpmcnaeaiaa

/-- A copy that waits: a message, its time, the number of its sending. -/
structure Pc where
  fr : Int
  ds : Int
  tx : ByteArray
  tm : Int
  sn : Int

instance : Inhabited Pc := ⟨⟨0, 0, ByteArray.empty, 0, 0⟩⟩

def lt (p q : Pc) : Bool := decide (p.tm < q.tm) || (decide (p.tm = q.tm) && decide (p.sn < q.sn))

theorem lt_iff (p q : Pc) : lt p q = true ↔ p.tm < q.tm ∨ (p.tm = q.tm ∧ p.sn < q.sn) := by simp [lt]
theorem lt_false (p q : Pc) : lt p q = false ↔ q.tm < p.tm ∨ (p.tm = q.tm ∧ q.sn ≤ p.sn) := by
  rw [Bool.eq_false_iff, Ne, lt_iff]; omega
theorem le_trans' {p q r : Pc} (h : lt q p = false) (k : lt r q = false) : lt r p = false := by
  rw [lt_false] at *; omega
theorem le_of_lt {p q : Pc} (h : lt p q = true) : lt q p = false := by
  rw [lt_iff] at h; rw [lt_false]; omega
theorem le_refl' (p : Pc) : lt p p = false := by rw [lt_false]; omega

def el (l : List Pc) (i : Nat) : Pc := l.getD i default
def swp (l : List Pc) (i j : Nat) : List Pc := (l.set i (el l j)).set j (el l i)

theorem swp_length (l : List Pc) (i j : Nat) : (swp l i j).length = l.length := by simp [swp]
theorem el_eq {l : List Pc} {i : Nat} (h : i < l.length) : el l i = l[i] := by simp [el, List.getD_eq_getElem?_getD, h]
theorem el_mem {l : List Pc} {i : Nat} (h : i < l.length) : el l i ∈ l := by rw [el_eq h]; exact List.getElem_mem h
theorem el_swp {l : List Pc} {i j k : Nat} (hi : i < l.length) (hj : j < l.length) : el (swp l i j) k = if k = j then el l i else if k = i then el l j else el l k := by
  simp only [el, swp, List.getD_eq_getElem?_getD, List.getElem?_set, List.length_set]
  by_cases h1 : k = j
  · subst h1; simp [hj]
  · by_cases h2 : k = i
    · subst h2; simp [hi, h1, Ne.symm h1]
    · simp [h1, h2, Ne.symm h1, Ne.symm h2]
theorem swp_perm {l : List Pc} {i j : Nat} (hi : i < l.length) (hj : j < l.length) : (swp l i j).Perm l := by
  have h := Array.swap_perm (xs := l.toArray) (i := i) (j := j) (by simpa using hi) (by simpa using hj)
  have e : (l.toArray.swap i j (by simpa using hi) (by simpa using hj)).toList = swp l i j := by
    simp [Array.swap, swp, el, List.getD_eq_getElem?_getD, hi, hj]
  have := Array.perm_iff_toList_perm.1 h
  rw [e] at this
  simpa using this

/-- the heap's order, on the first n elements -/
def Heap (l : List Pc) (n : Nat) : Prop := ∀ k, 0 < k → k < n → lt (el l k) (el l ((k - 1) / 2)) = false
/-- the heap's order but for j itself; what hangs on j is not below j's parent -/
def HeapUp (l : List Pc) (n j : Nat) : Prop :=
  (∀ k, 0 < k → k < n → k ≠ j → lt (el l k) (el l ((k - 1) / 2)) = false) ∧
  (∀ k, 0 < k → k < n → (k - 1) / 2 = j → 0 < j → lt (el l k) (el l ((j - 1) / 2)) = false)
/-- the heap's order but for what hangs on i; that is not below i's parent -/
def HeapDown (l : List Pc) (n i : Nat) : Prop :=
  (∀ k, 0 < k → k < n → (k - 1) / 2 ≠ i → lt (el l k) (el l ((k - 1) / 2)) = false) ∧
  (∀ k, 0 < k → k < n → (k - 1) / 2 = i → 0 < i → lt (el l k) (el l ((i - 1) / 2)) = false)

theorem up_done0 {l : List Pc} {n : Nat} (h : HeapUp l n 0) : Heap l n := fun k h0 hk => h.1 k h0 hk (by omega)
theorem up_done {l : List Pc} {n j : Nat} (h : HeapUp l n j) (hl : lt (el l j) (el l ((j - 1) / 2)) = false) : Heap l n := by
  intro k h0 hk
  by_cases e : k = j
  · subst e; exact hl
  · exact h.1 k h0 hk e
theorem up_step {l : List Pc} {n j : Nat} (hn : n ≤ l.length) (hj0 : 0 < j) (hj : j < n) (h : HeapUp l n j) (hl : lt (el l j) (el l ((j - 1) / 2)) = true) :
    HeapUp (swp l ((j - 1) / 2) j) n ((j - 1) / 2) := by
  have hi : (j - 1) / 2 < j := by omega
  refine ⟨fun k h0 hk hne => ?_, fun k h0 hk hp hi0 => ?_⟩
  · rw [el_swp (by omega) (by omega), el_swp (by omega) (by omega)]
    by_cases hkj : k = j
    · subst hkj
      rw [if_pos rfl, if_neg (by omega), if_pos rfl]
      exact le_of_lt hl
    · rw [if_neg hkj, if_neg hne]
      by_cases hpj : (k - 1) / 2 = j
      · rw [if_pos hpj]
        exact h.2 k h0 hk hpj (by omega)
      · rw [if_neg hpj]
        by_cases hpi : (k - 1) / 2 = (j - 1) / 2
        · rw [if_pos hpi]
          have := h.1 k h0 hk hkj
          rw [hpi] at this
          exact le_trans' (le_of_lt hl) this
        · rw [if_neg hpi]
          exact h.1 k h0 hk hkj
  · rw [el_swp (by omega) (by omega), el_swp (by omega) (by omega)]
    have hgi : ¬ ((j - 1) / 2 - 1) / 2 = (j - 1) / 2 := by omega
    have hgj : ¬ ((j - 1) / 2 - 1) / 2 = j := by omega
    rw [if_neg hgj, if_neg hgi]
    have hpi := h.1 ((j - 1) / 2) hi0 (by omega) (by omega)
    by_cases hkj : k = j
    · rw [if_pos hkj]
      exact hpi
    · rw [if_neg hkj, if_neg (by omega)]
      have := h.1 k h0 hk hkj
      rw [hp] at this
      exact le_trans' hpi this

theorem down_done {l : List Pc} {n i : Nat} (h : HeapDown l n i) (hl : ∀ k, 0 < k → k < n → (k - 1) / 2 = i → lt (el l k) (el l i) = false) : Heap l n := by
  intro k h0 hk
  by_cases e : (k - 1) / 2 = i
  · rw [e]; exact hl k h0 hk e
  · exact h.1 k h0 hk e
theorem down_step {l : List Pc} {n i j : Nat} (hn : n ≤ l.length) (hj0 : 0 < j) (hj : j < n) (hp : (j - 1) / 2 = i) (h : HeapDown l n i) (hl : lt (el l j) (el l i) = true)
    (hmin : ∀ k, 0 < k → k < n → (k - 1) / 2 = i → lt (el l k) (el l j) = false) : HeapDown (swp l i j) n j := by
  have hij : i < j := by omega
  refine ⟨fun k h0 hk hne => ?_, fun k h0 hk hpk hj0' => ?_⟩
  · rw [el_swp (by omega) (by omega), el_swp (by omega) (by omega)]
    rw [if_neg hne]
    by_cases hpi : (k - 1) / 2 = i
    · rw [if_pos hpi]
      by_cases hkj : k = j
      · rw [if_pos hkj]; exact le_of_lt hl
      · rw [if_neg hkj, if_neg (by omega)]
        exact hmin k h0 hk hpi
    · rw [if_neg hpi]
      by_cases hki : k = i
      · rw [if_neg (by omega), if_pos hki]
        rw [hki]
        exact h.2 j hj0 hj hp (by omega)
      · rw [if_neg (by omega), if_neg hki]
        exact h.1 k h0 hk hpi
  · rw [el_swp (by omega) (by omega), el_swp (by omega) (by omega)]
    rw [if_neg (by omega), if_neg (by omega), if_neg (by omega), if_pos hp]
    have := h.1 k h0 hk (by omega)
    rw [hpk] at this
    exact this

theorem heap_push {l : List Pc} (x : Pc) (h : Heap l l.length) : HeapUp (l ++ [x]) (l.length + 1) l.length := by
  have e : ∀ k, k < l.length → el (l ++ [x]) k = el l k := fun k hk => by simp [el, List.getD_eq_getElem?_getD, List.getElem?_append_left hk]
  refine ⟨fun k h0 hk hne => ?_, fun k h0 hk hp _ => by omega⟩
  rw [e k (by omega), e _ (by omega)]
  exact h k h0 (by omega)
theorem heap_pop {l : List Pc} {n : Nat} (hn : l.length = n + 1) (h : Heap l (n + 1)) : HeapDown (swp l 0 n) n 0 := by
  refine ⟨fun k h0 hk hne => ?_, fun k h0 hk hp hi0 => by omega⟩
  rw [el_swp (by omega) (by omega), el_swp (by omega) (by omega), if_neg (by omega), if_neg (by omega), if_neg (by omega), if_neg (by omega)]
  exact h k h0 (by omega)
theorem heap_min {l : List Pc} {n : Nat} (h : Heap l n) : ∀ k, k < n → lt (el l k) (el l 0) = false := by
  intro k
  induction k using Nat.strongRecOn with
  | _ k ih =>
    intro hk
    by_cases h0 : k = 0
    · subst h0; exact le_refl' _
    · exact le_trans' (ih ((k - 1) / 2) (by omega) (by omega)) (h k (by omega) hk)
theorem heap_congr {l l' : List Pc} {n : Nat} (h : Heap l n) (e : ∀ k, k < n → el l' k = el l k) : Heap l' n := by
  intro k h0 hk
  rw [e k hk, e _ (by omega)]
  exact h k h0 hk

end Go.Proofs.Ytmhkdpmcnaeaiaa
