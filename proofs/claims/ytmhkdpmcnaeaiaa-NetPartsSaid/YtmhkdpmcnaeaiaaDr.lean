/-
  Messages sent one after the other to one node: what waits then, plain.
-/
import Derived.Test.YtmhkdpmcnaeaiaaTw
namespace Go.Proofs.Ytmhkdpmcnaeaiaa
open Go.RowKit
set_option linter.unusedVariables false

theorem perm_of_mem {α : Type} {a : α} {l : List α} (h : a ∈ l) : ∃ l', l.Perm (a :: l') := by
  obtain ⟨s, t, rfl⟩ := List.append_of_mem h
  exact ⟨s ++ t, List.perm_middle⟩

/-- a net of one node behind j messages, the k-th from k -/
def dS (sc : List Tr) (T : List Int) : Nat → Nst
  | 0 => ⟨1, sc, [], 0, fun _ => 0⟩
  | j + 1 => (dS sc T j).send (T.getD j 0) j 0 ⟨#[]⟩

theorem send_same (s : Nst) (now fr dt : Int) (tx : ByteArray) : (s.send now fr dt tx).nd = s.nd ∧ (s.send now fr dt tx).sc = s.sc ∧ (s.send now fr dt tx).sn = s.sn + 1 ∧ (s.send now fr dt tx).gr = s.gr := by
  unfold Nst.send
  split <;> exact ⟨rfl, rfl, rfl, rfl⟩
theorem send_ws (s : Nst) (now fr dt : Int) (tx : ByteArray) : (s.send now fr dt tx).ws = if s.next.lost = true ∨ nodeB s.nd dt = false ∨ (nodeB s.nd fr = true ∧ s.gr fr ≠ s.gr dt) then s.ws else s.ws ++ s.parcels now fr dt tx := by
  unfold Nst.send
  split <;> rfl
theorem parcels_length (s : Nst) (now fr dt : Int) (tx : ByteArray) : (s.parcels now fr dt tx).length = s.next.many := by simp [Nst.parcels]
theorem send_ws_le (s : Nst) (now fr dt : Int) (tx : ByteArray) : (s.send now fr dt tx).ws.length ≤ s.ws.length + 8 := by
  rw [send_ws]
  split
  · omega
  · rw [List.length_append, parcels_length]
    have := many_le s.next
    omega

section
variable (sc : List Tr) (T : List Int)
theorem dS_same (j : Nat) : (dS sc T j).nd = 1 ∧ (dS sc T j).sc = sc ∧ (dS sc T j).sn = j ∧ (dS sc T j).gr = fun _ => 0 := by
  induction j with
  | zero => exact ⟨rfl, rfl, rfl, rfl⟩
  | succ j ih =>
    obtain ⟨a, b, c, d⟩ := send_same (dS sc T j) (T.getD j 0) j 0 ⟨#[]⟩
    exact ⟨a.trans ih.1, b.trans ih.2.1, by rw [dS, c, ih.2.2.1], d.trans ih.2.2.2⟩
theorem dS_drops (j : Nat) (fr : Int) : (dS sc T j).drops fr 0 ↔ (dS sc T j).next.lost = true := by
  obtain ⟨h1, h2, h3, h4⟩ := dS_same sc T j
  unfold Nst.drops
  rw [h1, h4]
  simp [nodeB]
theorem dS_ws (j : Nat) : (dS sc T (j + 1)).ws = if (dS sc T j).next.lost = true then (dS sc T j).ws else (dS sc T j).ws ++ (dS sc T j).parcels (T.getD j 0) j 0 ⟨#[]⟩ := by
  by_cases h : (dS sc T j).next.lost = true
  · rw [if_pos h, dS, send_dropped ((dS_drops sc T j j).2 h)]
  · rw [if_neg h, dS, send_kept (fun hd => h ((dS_drops sc T j j).1 hd))]
/-- how many copies of the next message there will be -/
def dN (j : Nat) : Nat := if (dS sc T j).next.lost = true then 0 else (dS sc T j).next.many
theorem dS_len (j : Nat) : (dS sc T (j + 1)).ws.length = (dS sc T j).ws.length + dN sc T j := by
  rw [dS_ws]
  unfold dN
  split
  · rfl
  · rw [List.length_append, parcels_length]
theorem dN_le (j : Nat) : dN sc T j ≤ 8 := by
  unfold dN
  split
  · omega
  · exact many_le _
theorem dS_le (j : Nat) : (dS sc T j).ws.length ≤ 8 * j := by
  induction j with
  | zero => simp [dS]
  | succ j ih =>
    have := dS_len sc T j
    have := dN_le sc T j
    omega
/-- what is true of each copy -/
def DrOk (n : Nat) (q : Pc) : Prop := 0 ≤ q.fr ∧ q.fr < (n : Int) ∧ q.fr = q.sn ∧ T.getD q.fr.toNat 0 ≤ q.tm
theorem dS_ok (j : Nat) : ∀ q ∈ (dS sc T j).ws, DrOk T j q := by
  induction j with
  | zero => intro q hq; simp [dS] at hq
  | succ j ih =>
    intro q hq
    rw [dS_ws] at hq
    have old : ∀ q ∈ (dS sc T j).ws, DrOk T (j + 1) q := fun q hq => by
      obtain ⟨a, b, c, d⟩ := ih q hq
      exact ⟨a, by omega, c, d⟩
    split at hq
    · exact old q hq
    · rcases List.mem_append.1 hq with h | h
      · exact old q h
      · simp only [Nst.parcels, List.mem_map, List.mem_range] at h
        obtain ⟨k, hk, rfl⟩ := h
        obtain ⟨h1, h2, h3, h4⟩ := dS_same sc T j
        refine ⟨by dsimp only; omega, by dsimp only; omega, by dsimp only; rw [h3], ?_⟩
        dsimp only
        rw [Int.toNat_natCast]
        omega
end

/-- the copies that still wait come behind those that have come -/
def Behind (last first : Int) (q : Pc) : Prop := last < q.tm ∨ (last = q.tm ∧ first ≤ q.sn)
theorem behind_next {p : Pc} {ws ws' : List Pc} (hm : ∀ q ∈ ws, lt q p = false) (hp : ws.Perm (p :: ws')) : ∀ q ∈ ws', Behind p.tm p.sn q := by
  intro q hq
  have := hm q (hp.mem_iff.2 (List.mem_cons_of_mem _ hq))
  rw [lt_false] at this
  unfold Behind
  omega

/-- a slice of small numbers can be read -/
def RdU (k : IntKind) (w : World) (A : Option Addr) (T : List Int) : Prop :=
  0 < T.length → ∃ b off, A = some ⟨b, off, none⟩ ∧ ∀ i, i < T.length → w.cell? ⟨b, off + i, none⟩ = some (.int k (T.getD i 0))
theorem RdU.only {k : IntKind} {w w' : World} {A : Option Addr} {T : List Int} {S : Nat → Prop} (h : RdU k w A T) (ho : Only S w w') (hS : ∀ i, S i → w.heap.size ≤ i) : RdU k w' A T := fun hl => by
  obtain ⟨b, off, e, hc⟩ := h hl
  exact ⟨b, off, e, fun i hi => ho.cell (hc i hi) (fun hs => by have := hS _ hs; have := World.block_lt_of_cell? w _ (hc i hi); dsimp only at *; omega)⟩
theorem RdT.only {w w' : World} {A : Option Addr} {l : List Tr} {S : Nat → Prop} (h : RdT w A l) (ho : Only S w w') (hS : ∀ i, S i → w.heap.size ≤ i) : RdT w' A l := fun hl => by
  obtain ⟨b, off, e, hc⟩ := h hl
  have hb := World.block_lt_of_cell? w _ (hc 0 hl).1
  have hn : ¬ S b := fun hs => by have := hS _ hs; dsimp only at hb; omega
  exact ⟨b, off, e, fun i hi => ⟨ho.cell (hc i hi).1 hn, ho.cell (hc i hi).2.1 hn, ho.cell (hc i hi).2.2 hn⟩⟩

theorem open_ints {k : IntKind} {w : World} {L : List Int} {cs : List Value} {v : Value} (h : Holds w (.sl (.int k)) L cs) (hv : IsV (.sl (.int k)) cs v) :
    ∃ A c, v = .slice A L.length c ∧ RdU k w A L ∧ L.length ≤ 9223372036854775807 ∧ ∀ x ∈ L, (Lit.int k x).wf = true := by
  simp only [IsV] at hv
  simp only [Holds] at h
  rcases h with ⟨h1, h2⟩ | ⟨a, cap, h1, h2, h3, h4⟩
  · rw [hv] at h1
    obtain rfl : v = .slice none 0 0 := by simpa using h1
    obtain rfl : L = [] := h2
    exact ⟨none, 0, rfl, fun h => by simp at h, by simp, fun t ht => by simp at ht⟩
  · rw [hv] at h1
    obtain rfl : v = .slice (some a) L.length cap := (List.cons.inj h1).1
    have el : ∀ (i : Nat) (x : Int), L[i]? = some x → w.cell? (a.add i) = some (.int k x) ∧ (Lit.int k x).wf = true := by
      intro i x hx
      obtain ⟨cs', g1, g2, g3⟩ := h4 i x hx
      simp only [Ty.size] at g1 g2 g3
      obtain ⟨rfl, hw⟩ := g3
      have := g2 0 _ rfl
      simp only [Nat.mul_one, Nat.add_zero] at this
      exact ⟨this, hw⟩
    refine ⟨some a, cap, rfl, fun hl => ?_, by simp [maxLen] at h2 h3 ⊢; exact Nat.le_trans h2 h3, fun x hx => ?_⟩
    · have := (el 0 L[0] (by simp [hl])).1
      obtain ⟨b, off, rfl⟩ := spot_none (v := .int k L[0]) (by simpa using this)
      refine ⟨b, off, rfl, fun i hi => ?_⟩
      have := (el i L[i] (by simp [hi])).1
      simp only [Addr.add_lit] at this
      rw [this, List.getD_eq_getElem?_getD]
      simp [hi]
    · obtain ⟨i, hi, rfl⟩ := List.getElem_of_mem hx
      exact (el i _ (by simp [hi])).2

end Go.Proofs.Ytmhkdpmcnaeaiaa
