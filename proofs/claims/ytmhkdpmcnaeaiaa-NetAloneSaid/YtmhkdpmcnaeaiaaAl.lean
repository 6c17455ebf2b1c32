/-
  NetAlone, plain: a net behind other messages, and one behind lost messages, and then the same message to both.
-/
import Derived.Test.YtmhkdpmcnaeaiaaDr
namespace Go.Proofs.Ytmhkdpmcnaeaiaa
open Go.RowKit
set_option linter.unusedVariables false

def txOther : ByteArray := ⟨#[111, 116, 104, 101, 114]⟩
def txThis : ByteArray := ⟨#[116, 104, 105, 115]⟩

section
variable (sc : List Tr) (T : List Int)
def aS : Nat → Nst
  | 0 => ⟨2, sc, [], 0, fun _ => 0⟩
  | j + 1 => (aS j).send (T.getD j 0) j 1 txOther
def bS (j : Nat) : Nst := ⟨2, sc, [], j, fun _ => 0⟩
theorem bS_next (j : Nat) : (bS sc j).send 0 0 5 ⟨#[]⟩ = bS sc (j + 1) := by
  rw [send_dropped (.inr (.inl (show nodeB 2 5 = false by decide +kernel)))]
  rfl
theorem aS_same (j : Nat) : (aS sc T j).nd = 2 ∧ (aS sc T j).sc = sc ∧ (aS sc T j).sn = j ∧ (aS sc T j).gr = fun _ => 0 := by
  induction j with
  | zero => exact ⟨rfl, rfl, rfl, rfl⟩
  | succ j ih =>
    obtain ⟨a, b, c, d⟩ := send_same (aS sc T j) (T.getD j 0) j 1 txOther
    exact ⟨a.trans ih.1, b.trans ih.2.1, by rw [aS, c, ih.2.2.1], d.trans ih.2.2.2⟩
theorem aS_le (j : Nat) : (aS sc T j).ws.length ≤ 8 * j := by
  induction j with
  | zero => simp [aS]
  | succ j ih =>
    have := send_ws_le (aS sc T j) (T.getD j 0) j 1 txOther
    rw [aS]
    omega
theorem aS_ds (j : Nat) : ∀ q ∈ (aS sc T j).ws, q.ds = 1 := by
  induction j with
  | zero => intro q hq; simp [aS] at hq
  | succ j ih =>
    intro q hq
    rw [aS, send_ws] at hq
    split at hq
    · exact ih q hq
    · rcases List.mem_append.1 hq with h | h
      · exact ih q h
      · simp only [Nst.parcels, List.mem_map, List.mem_range] at h
        obtain ⟨k, hk, rfl⟩ := h
        rfl
end

/-- the two nets' waiting copies: those to node 0 are the same -/
structure AlOk (W1 W2 : List Pc) : Prop where
  perm : (W1.filter (fun q => decide (q.ds = 0))).Perm W2
  this : ∀ q ∈ W1, q.ds = 0 → q.fr = 7 ∧ q.tx = txThis

def alNow (s : Nst) (now : Int) : Nst := s.send now 7 0 txThis
theorem next_same {s t : Nst} (h1 : s.sc = t.sc) (h2 : s.sn = t.sn) : s.next = t.next := by
  obtain ⟨a, b, c, d, e⟩ := s
  obtain ⟨a', b', c', d', e'⟩ := t
  dsimp only at h1 h2
  subst h1 h2
  rfl
theorem al_start (sc : List Tr) (T : List Int) (n : Nat) (now : Int) : AlOk (alNow (aS sc T n) now).ws (alNow (bS sc n) now).ws ∧ (alNow (aS sc T n) now).ws.length ≤ 8 * n + 8 := by
  obtain ⟨h1, h2, h3, h4⟩ := aS_same sc T n
  have hx : (aS sc T n).next = (bS sc n).next := next_same h2 h3
  have hp : (aS sc T n).parcels now 7 0 txThis = (bS sc n).parcels now 7 0 txThis := by unfold Nst.parcels; rw [hx, h3]; rfl
  have hd : (aS sc T n).drops 7 0 ↔ (bS sc n).next.lost = true := by unfold Nst.drops; rw [hx, h1, h4]; simp [nodeB]
  have hd2 : (bS sc n).drops 7 0 ↔ (bS sc n).next.lost = true := by unfold Nst.drops; simp [bS, nodeB]
  have hds := aS_ds sc T n
  have hf : (aS sc T n).ws.filter (fun q => decide (q.ds = 0)) = [] := List.filter_eq_nil_iff.2 fun q hq => by rw [hds q hq]; decide
  refine ⟨?_, by have := send_ws_le (aS sc T n) now 7 0 txThis; have := aS_le sc T n; unfold alNow; omega⟩
  unfold alNow
  by_cases hl : (bS sc n).next.lost = true
  · rw [send_dropped (hd.2 hl), send_dropped (hd2.2 hl)]
    exact ⟨by dsimp only; rw [hf]; exact List.Perm.refl _, fun q hq h0 => by have := hds q hq; omega⟩
  · rw [send_kept (fun h => hl (hd.1 h)), send_kept (fun h => hl (hd2.1 h)), hp]
    have h0 : ∀ q ∈ (bS sc n).parcels now 7 0 txThis, q.ds = 0 ∧ q.fr = 7 ∧ q.tx = txThis := fun q hq => by
      simp only [Nst.parcels, List.mem_map, List.mem_range] at hq
      obtain ⟨k, hk, rfl⟩ := hq
      exact ⟨rfl, rfl, rfl⟩
    refine ⟨?_, fun q hq hz => ?_⟩
    · dsimp only
      rw [List.filter_append, hf, List.nil_append, List.filter_eq_self.2 fun q hq => by rw [(h0 q hq).1]; decide]
      exact List.Perm.refl _
    · rcases List.mem_append.1 hq with h | h
      · have := hds q h; omega
      · exact (h0 q h).2
theorem al_other {W1 W2 W1' : List Pc} {p : Pc} (h : AlOk W1 W2) (hp : W1.Perm (p :: W1')) (h0 : p.ds ≠ 0) : AlOk W1' W2 := by
  refine ⟨?_, fun q hq => h.this q (hp.mem_iff.2 (List.mem_cons_of_mem _ hq))⟩
  have := (hp.filter (fun q => decide (q.ds = 0))).symm.trans h.perm
  rwa [List.filter_cons_of_neg (by simpa using h0)] at this
theorem al_this {W1 W2 W1' : List Pc} {p : Pc} (h : AlOk W1 W2) (hp : W1.Perm (p :: W1')) (h0 : p.ds = 0) : p ∈ W2 :=
  h.perm.mem_iff.1 (List.mem_filter.2 ⟨hp.mem_iff.2 (List.mem_cons_self ..), by simpa using h0⟩)
theorem al_both {W1 W2 W1' W2' : List Pc} {p p' : Pc} (h : AlOk W1 W2) (hp : W1.Perm (p :: W1')) (h0 : p.ds = 0) (hm : ∀ q ∈ W1, lt q p = false) (hp' : W2.Perm (p' :: W2')) (hm' : ∀ q ∈ W2, lt q p' = false) : p' = p ∧ AlOk W1' W2' := by
  have h2 := al_this h hp h0
  have h1 := List.mem_filter.1 (h.perm.mem_iff.2 (hp'.mem_iff.2 (List.mem_cons_self ..)))
  have a := hm p' h1.1
  have b := hm' p h2
  rw [lt_false] at a b
  have e : p' = p := by
    have x := h.this p (hp.mem_iff.2 (List.mem_cons_self ..)) h0
    have h10 : p'.ds = 0 := by simpa using h1.2
    have y := h.this p' h1.1 h10
    obtain ⟨f, d, t, m, s⟩ := p
    obtain ⟨f', d', t', m', s'⟩ := p'
    dsimp only at *
    obtain ⟨rfl, rfl⟩ := x
    obtain ⟨rfl, rfl⟩ := y
    obtain rfl : m = m' := by omega
    obtain rfl : s = s' := by omega
    subst h0 h10
    rfl
  refine ⟨e, ?_, fun q hq => h.this q (hp.mem_iff.2 (List.mem_cons_of_mem _ hq))⟩
  have := ((hp.filter (fun q => decide (q.ds = 0))).symm.trans h.perm).trans hp'
  rw [List.filter_cons_of_pos (by simpa using h0), e] at this
  exact (List.perm_cons p).1 this

end Go.Proofs.Ytmhkdpmcnaeaiaa
