/-
  NetWhole, plain: what waits after messages of a list, with one delay for all; a list of messages among the arguments.
-/
import Derived.Test.YtmhkdpmcnaeaiaaDr
namespace Go.Proofs.Ytmhkdpmcnaeaiaa
open Go.RowKit
set_option linter.unusedVariables false

structure Ms where
  fr : Int
  dt : Int
  tx : ByteArray
def Ms.zero : Ms := ⟨0, 0, ⟨#[]⟩⟩
def msAt (L : List Ms) (i : Nat) : Ms := L.getD i Ms.zero

/-- a slice of messages can be read -/
def RdM (w : World) (A : Option Addr) (L : List Ms) : Prop :=
  0 < L.length → ∃ b off, A = some ⟨b, off, none⟩ ∧ ∀ i, i < L.length → w.cell? ⟨b, off + i * 3, none⟩ = some (.int .i64 (msAt L i).fr) ∧ w.cell? ⟨b, off + i * 3 + 1, none⟩ = some (.int .i64 (msAt L i).dt) ∧ w.cell? ⟨b, off + i * 3 + 2, none⟩ = some (.string (msAt L i).tx)
theorem RdM.only {w w' : World} {A : Option Addr} {L : List Ms} {S : Nat → Prop} (h : RdM w A L) (ho : Only S w w') (hS : ∀ i, S i → w.heap.size ≤ i) : RdM w' A L := fun hl => by
  obtain ⟨b, off, e, hc⟩ := h hl
  have hb := World.block_lt_of_cell? w _ (hc 0 hl).1
  have hn : ¬ S b := fun hs => by have := hS _ hs; dsimp only at hb; omega
  exact ⟨b, off, e, fun i hi => ⟨ho.cell (hc i hi).1 hn, ho.cell (hc i hi).2.1 hn, ho.cell (hc i hi).2.2 hn⟩⟩
theorem RdM.take {w : World} {A : Option Addr} {L : List Ms} (h : RdM w A L) (n : Nat) : RdM w A (L.take n) := fun hl => by
  obtain ⟨b, off, e, hc⟩ := h (by simp at hl; omega)
  refine ⟨b, off, e, fun i hi => ?_⟩
  have : msAt (L.take n) i = msAt L i := by unfold msAt; rw [List.length_take] at hi; rw [List.getD_eq_getElem?_getD, List.getD_eq_getElem?_getD, List.getElem?_take, if_pos (by omega)]
  rw [this]
  exact hc i (by simp at hi; omega)

section
variable (nd dl : Int) (L : List Ms)
def wF (i : Nat) : Option Pc := if nodeB nd (msAt L i).dt = true then some ⟨(msAt L i).fr, (msAt L i).dt, (msAt L i).tx, 10 * i + dl, i⟩ else none
def wS : Nat → Nst
  | 0 => ⟨nd, [⟨false, 0, dl⟩], [], 0, fun _ => 0⟩
  | j + 1 => (wS j).send (10 * j) (msAt L j).fr (msAt L j).dt (msAt L j).tx
def wA (j : Nat) : Nst := ⟨nd, [⟨false, 0, dl⟩], (List.range j).filterMap (wF nd dl L), j, fun _ => 0⟩
theorem wA_next (j : Nat) : (wA nd dl L j).next = ⟨false, 0, dl⟩ := by
  unfold Nst.next wA
  simp [Nat.mod_one]
theorem wA_drops (j : Nat) (fr dt : Int) : (wA nd dl L j).drops fr dt ↔ nodeB nd dt = false := by
  unfold Nst.drops
  rw [wA_next]
  simp [wA]
theorem wS_eq (hd : 0 ≤ dl) (j : Nat) : wS nd dl L j = wA nd dl L j := by
  induction j with
  | zero => rfl
  | succ j ih =>
    rw [wS, ih]
    have e : ((List.range (j + 1)).filterMap (wF nd dl L)) = (List.range j).filterMap (wF nd dl L) ++ [j].filterMap (wF nd dl L) := by rw [List.range_succ, List.filterMap_append]
    cases hx : nodeB nd (msAt L j).dt
    · rw [send_dropped ((wA_drops nd dl L j _ _).2 hx)]
      unfold wA
      rw [e]
      simp [wF, hx]
    · rw [send_kept (fun h => by rw [(wA_drops nd dl L j _ _).1 h] at hx; cases hx), parcels_one _ _ _ _ _ (by rw [wA_next]; exact (by decide : (0 : Int) ≤ 1)), wA_next]
      unfold wA
      rw [e]
      have hm : max dl 0 = dl := by omega
      simp [wF, hx, hm]
theorem wA_len (j : Nat) : (wA nd dl L j).ws.length ≤ j := by
  have := List.length_filterMap_le (wF nd dl L) (List.range j)
  simpa [wA] using this
/-- what still waits of n messages when the first k have been dealt with -/
def wR (n k : Nat) : List Pc := (List.range' k (n - k)).filterMap (wF nd dl L)
theorem wR_zero (n : Nat) : wR nd dl L n 0 = (wA nd dl L n).ws := by unfold wR wA; rw [Nat.sub_zero, List.range_eq_range']
theorem wR_end (n : Nat) : wR nd dl L n n = [] := by unfold wR; rw [Nat.sub_self]; rfl
theorem wR_step {n k : Nat} (h : k < n) : List.range' k (n - k) = k :: List.range' (k + 1) (n - (k + 1)) := by
  rw [show n - k = (n - (k + 1)) + 1 by omega, List.range'_succ]
theorem wR_none {n k : Nat} (h : k < n) (hx : nodeB nd (msAt L k).dt = false) : wR nd dl L n k = wR nd dl L n (k + 1) := by
  unfold wR
  rw [wR_step h, List.filterMap_cons]
  simp [wF, hx]
theorem wR_some {n k : Nat} (h : k < n) (hx : nodeB nd (msAt L k).dt = true) :
    wR nd dl L n k = ⟨(msAt L k).fr, (msAt L k).dt, (msAt L k).tx, 10 * k + dl, k⟩ :: wR nd dl L n (k + 1) ∧ ∀ q ∈ wR nd dl L n (k + 1), lt ⟨(msAt L k).fr, (msAt L k).dt, (msAt L k).tx, 10 * k + dl, k⟩ q = true := by
  refine ⟨?_, fun q hq => ?_⟩
  · unfold wR
    rw [wR_step h, List.filterMap_cons]
    simp [wF, hx]
  · unfold wR at hq
    rw [List.mem_filterMap] at hq
    obtain ⟨i, hi, hq⟩ := hq
    rw [List.mem_range'_1] at hi
    unfold wF at hq
    split at hq
    · obtain rfl := Option.some.inj hq
      rw [lt_iff]
      dsimp only
      omega
    · cases hq
theorem wR_len (n k : Nat) : (wR nd dl L n k).length ≤ n := by
  have := List.length_filterMap_le (wF nd dl L) (List.range' k (n - k))
  unfold wR
  simp at this
  omega
end

def msTy : Ty := .st [.int .i64, .int .i64, .str]
def toMs (x : msTy.Val) : Ms := ⟨x.1, x.2.1, x.2.2.1⟩
theorem open_msgs {w : World} {L : List msTy.Val} {cs : List Value} {v : Value} (h : Holds w (.sl msTy) L cs) (hv : IsV (.sl msTy) cs v) :
    ∃ A c, v = .slice A (L.map toMs).length c ∧ RdM w A (L.map toMs) ∧ (L.map toMs).length ≤ 9223372036854775807 ∧ (L.map toMs).length ≤ c := by
  simp only [IsV] at hv
  simp only [Holds] at h
  rcases h with ⟨h1, h2⟩ | ⟨a, cap, h1, h2, h3, h4⟩
  · rw [hv] at h1
    obtain rfl : v = .slice none 0 0 := by simpa using h1
    have : L = [] := h2
    subst this
    exact ⟨none, 0, rfl, fun h => by simp at h, by simp, by simp⟩
  · rw [hv] at h1
    obtain rfl : v = .slice (some a) L.length cap := by simpa using h1
    have el : ∀ (i : Nat) (x : msTy.Val), L[i]? = some x → (w.cell? (a.add (i * 3 + 0)) = some (.int .i64 (toMs x).fr) ∧ w.cell? (a.add (i * 3 + 1)) = some (.int .i64 (toMs x).dt) ∧ w.cell? (a.add (i * 3 + 2)) = some (.string (toMs x).tx)) := by
      intro i x hx
      obtain ⟨cs', g1, g2, g3⟩ := h4 i x hx
      obtain ⟨x0, x1, x2, xu⟩ := x
      simp only [msTy, Holds, HoldsAll, Ty.size, Ty.sizes] at g1 g2 g3
      match cs', g1 with
      | [c0, c1, c2], _ =>
        simp at g3
        obtain ⟨⟨rfl, _⟩, ⟨rfl, _⟩, rfl, _⟩ := g3
        exact ⟨g2 0 _ rfl, g2 1 _ rfl, g2 2 _ rfl⟩
    refine ⟨some a, cap, by simp, fun hl => ?_, by simp [maxLen] at h2 h3 ⊢; exact Nat.le_trans h2 h3, by simpa using h2⟩
    have hl' : 0 < L.length := by simpa using hl
    obtain ⟨b, off, rfl⟩ := spot_none (el 0 L[0] (by simp [hl'])).1
    refine ⟨b, off, rfl, fun i hi => ?_⟩
    have hi' : i < L.length := by simpa using hi
    have := el i L[i] (by simp [hi'])
    have e : msAt (L.map toMs) i = toMs L[i] := by unfold msAt; simp [List.getD_eq_getElem?_getD, hi']
    rw [e]
    simp only [Addr.add_lit] at this
    exact ⟨this.1, this.2.1, this.2.2⟩

end Go.Proofs.Ytmhkdpmcnaeaiaa
