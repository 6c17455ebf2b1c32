/-
  NetParts, plain; pairs among the arguments.
-/
import Derived.Test.YtmhkdpmcnaeaiaaOn
namespace Go.Proofs.Ytmhkdpmcnaeaiaa
open Go.RowKit
set_option linter.unusedVariables false

def gOf (T : List Int) : List Int := (T.take 8).map (fun x => x.tmod 3)
theorem gOf_len (T : List Int) : (gOf T).length ≤ 8 := by simp [gOf]; omega
theorem gOf_len' (T : List Int) : (gOf T).length ≤ T.length := by simp [gOf]; omega
def ints (xs : List Int) : List Value := xs.map (Value.int .i64)
theorem ints_one (xs : List Int) : ∀ u ∈ ints xs, u.oneCell' = true := by
  intro u hu
  simp only [ints, List.mem_map] at hu
  obtain ⟨x, _, rfl⟩ := hu
  rfl
theorem ints_len (xs : List Int) : (ints xs).length = xs.length := by simp [ints]
theorem ow_read {w : World} {v : Value} {g cap : Nat} {xs : List Int} (h : Ow w 3 1 v xs.length (ints xs)) (hv : v = .slice (some ⟨g, 0, none⟩) xs.length cap) : ∀ j, j < xs.length → w.cell? ⟨g, j, none⟩ = some (.int .i64 (xs.getD j 0)) := by
  intro j hj
  obtain ⟨g', cap', sp, e, ha, _⟩ := h.at_ (by omega)
  rw [hv] at e
  injection e with e
  injection e with e
  injection e with e
  subst e
  have : (ints xs ++ sp)[j]? = some (.int .i64 (xs.getD j 0)) := by
    rw [List.getElem?_append_left (by rw [ints_len]; exact hj)]
    simp [ints, List.getD_eq_getElem?_getD, hj]
  exact ha.cell this

theorem NetB.nb_ge {B nb : Nat} {s : Nst} {w : World} (h : NetB B w nb s) : B ≤ nb ∧ nb < w.heap.size := by
  obtain ⟨F, h1, h2⟩ := h
  obtain ⟨sv, wv, gv, l, h, rfl⟩ := h1
  exact ⟨h2 nb (.inl rfl), h.fields.lt⟩
theorem rd_of_ow {w : World} {A : Option Addr} {c nb : Nat} {G : List Int} (h : Ow w 3 1 (.slice A G.length c) G.length (ints G)) (hn : ∀ k, (Value.slice A G.length c).ownBlock = some k → k ≠ nb) : RdI w nb A G := fun hl => by
  obtain ⟨g, cap, sp, e, ha, _⟩ := h.at_ hl
  have e2 := e
  injection e with e
  subst e
  refine ⟨_, rfl, hn g rfl, fun j hj => ?_⟩
  rw [Addr.add_lit]
  have := ow_read h e2 j hj
  simpa using this
/-- what a slice of numbers in a block of its own holds -/
def OwnI (w : World) (v : Value) (B : Nat) (G : List Int) : Prop := ∃ g c sp, v = .slice (some ⟨g, 0, none⟩) G.length c ∧ B ≤ g ∧ At w g 3 (ints G ++ sp)
theorem OwnI.kept {w w' : World} {v : Value} {B C : Nat} {G : List Int} (h : OwnI w v B G) (k : Kept C w w') : OwnI w' v B G := by
  obtain ⟨g, c, sp, e, hb, ha⟩ := h
  exact ⟨g, c, sp, e, hb, k.at_ _ _ _ ha (by decide) (by decide) (by decide)⟩
theorem OwnI.only {w w' : World} {v : Value} {B : Nat} {G : List Int} {S : Nat → Prop} (h : OwnI w v B G) (ho : Only S w w') (hS : ∀ i, S i → i < B) : OwnI w' v B G := by
  obtain ⟨g, c, sp, e, hb, ha⟩ := h
  exact ⟨g, c, sp, e, hb, ha.only ho (fun hs => by have := hS _ hs; omega)⟩
theorem OwnI.cell {w : World} {v : Value} {B : Nat} {G : List Int} (h : OwnI w v B G) : ∃ g c, v = .slice (some ⟨g, 0, none⟩) G.length c ∧ g < w.heap.size ∧ ∀ j, j < G.length → w.cell? ⟨g, j, none⟩ = some (.int .i64 (G.getD j 0)) := by
  obtain ⟨g, c, sp, e, hb, ha⟩ := h
  refine ⟨g, c, e, ha.lt, fun j hj => ha.cell ?_⟩
  rw [List.getElem?_append_left (by rw [ints_len]; exact hj)]
  simp [ints, List.getD_eq_getElem?_getD, hj]

theorem NetB.only' {B nb : Nat} {s : Nst} {w w' : World} {S : Nat → Prop} (h : NetB B w nb s) (ho : Only S w w') (hS : ∀ i, S i → i < B) : NetB B w' nb s := by
  obtain ⟨F, h1, h2⟩ := h
  exact ⟨F, h1.only ho (fun k hk hs => by have := h2 k hk; have := hS k hs; omega), h2⟩
theorem own_of {w : World} {v : Value} {B : Nat} {G : List Int} (h : Ow w 3 1 v G.length (ints G)) (hb : ∀ k, v.ownBlock = some k → B ≤ k) (hl : 0 < G.length) : OwnI w v B G := by
  obtain ⟨g, cap, sp, rfl, ha, _⟩ := h.at_ hl
  exact ⟨g, cap, sp, rfl, hb g rfl, ha⟩

/-- a slice of pairs can be read -/
def RdP (w : World) (A : Option Addr) (L : List (Int × Int)) : Prop :=
  0 < L.length → ∃ b off, A = some ⟨b, off, none⟩ ∧ ∀ i, i < L.length → w.cell? ⟨b, off + i * 2, none⟩ = some (.int .u8 (L.getD i (0, 0)).1) ∧ w.cell? ⟨b, off + i * 2 + 1, none⟩ = some (.int .u8 (L.getD i (0, 0)).2)
theorem RdP.only {w w' : World} {A : Option Addr} {L : List (Int × Int)} {S : Nat → Prop} (h : RdP w A L) (ho : Only S w w') (hS : ∀ i, S i → w.heap.size ≤ i) : RdP w' A L := fun hl => by
  obtain ⟨b, off, e, hc⟩ := h hl
  have hb := World.block_lt_of_cell? w _ (hc 0 hl).1
  have hn : ¬ S b := fun hs => by have := hS _ hs; dsimp only at hb; omega
  exact ⟨b, off, e, fun i hi => ⟨ho.cell (hc i hi).1 hn, ho.cell (hc i hi).2 hn⟩⟩

section
variable (G : List Int)
def pS (k : Nat) : Nst := ⟨8, [], [], k, groupOf G⟩
def pM (f t now : Int) (k : Nat) : Pc := ⟨f, t, ⟨#[]⟩, now + 1, k⟩
theorem pS_next (k : Nat) : (pS G k).next = ⟨false, 1, 1⟩ := by unfold Nst.next pS; rw [dif_neg (by simp)]
theorem pS_drops (k : Nat) (f t : Int) : (pS G k).drops f t ↔ nodeB 8 t = false ∨ (nodeB 8 f = true ∧ groupOf G f ≠ groupOf G t) := by
  unfold Nst.drops
  rw [pS_next]
  simp [pS]
theorem pS_dropped {k : Nat} {f t now : Int} (h : (pS G k).drops f t) : (pS G k).send now f t ⟨#[]⟩ = pS G (k + 1) := by
  rw [send_dropped h]
  rfl
theorem pS_kept {k : Nat} {f t now : Int} (h : ¬ (pS G k).drops f t) : (pS G k).send now f t ⟨#[]⟩ = { pS G (k + 1) with ws := [pM f t now k] } := by
  rw [send_kept h, parcels_one _ _ _ _ _ (by rw [pS_next]; exact (by decide : (1 : Int) ≤ 1)), pS_next]
  rfl
theorem pS_ok (k : Nat) (hk : k < 1000) (f t now : Int) (h0 : 0 ≤ now) (h1 : now ≤ 1000) : (pS G k).sc.length ≤ 1000000 ∧ (pS G k).sn < 1000000 ∧ ((pS G k).drops f t ∨ (-1000000000000 ≤ now ∧ now ≤ 1000000000000 ∧ (pS G k).next.delay ≤ 1000000000000 ∧ (pS G k).ws.length ≤ 900000)) :=
  ⟨by simp [pS], by simp [pS]; omega, .inr ⟨by omega, by omega, by rw [pS_next]; exact (by decide : (1 : Int) ≤ 1000000000000), by simp [pS]⟩⟩
theorem group_at {f : Int} (h : 0 ≤ f) : groupOf G f = G.getD f.toNat 0 := by unfold groupOf; rw [if_pos h]
theorem group_out {f : Int} (h : 0 ≤ f) (hl : (G.length : Int) ≤ f) : groupOf G f = 0 := by
  rw [group_at G h, List.getD_eq_getElem?_getD, List.getElem?_eq_none (by omega)]
  rfl
end

theorem pS_last (k : Nat) : ¬ (pS [] k).drops 0 7 := by
  rw [pS_drops]
  have : groupOf [] 0 = groupOf [] 7 := by decide +kernel
  rw [this]
  have : nodeB 8 7 = true := by decide +kernel
  rw [this]
  simp

def prTy : Ty := .arr 2 (.int .u8)
def toPr (x : List Int) : Int × Int := (x.getD 0 0, x.getD 1 0)
theorem open_pairs {w : World} {L : List (List Int)} {cs : List Value} {v : Value} (h : Holds w (.sl prTy) L cs) (hv : IsV (.sl prTy) cs v) :
    ∃ A c, v = .slice A (L.map toPr).length c ∧ RdP w A (L.map toPr) ∧ (L.map toPr).length ≤ 9223372036854775807 ∧ ∀ x ∈ L.map toPr, (Lit.int .u8 x.1).wf = true ∧ (Lit.int .u8 x.2).wf = true := by
  simp only [IsV] at hv
  simp only [Holds] at h
  rcases h with ⟨h1, h2⟩ | ⟨a, cap, h1, h2, h3, h4⟩
  · rw [hv] at h1
    obtain rfl : v = .slice none 0 0 := by simpa using h1
    have : L = [] := h2
    subst this
    exact ⟨none, 0, rfl, fun h => by simp at h, by simp, fun t ht => by simp at ht⟩
  · rw [hv] at h1
    obtain rfl : v = .slice (some a) L.length cap := (List.cons.inj h1).1
    have el : ∀ (i : Nat) (x : List Int), L[i]? = some x → (w.cell? (a.add (i * 2 + 0)) = some (.int .u8 (toPr x).1) ∧ w.cell? (a.add (i * 2 + 1)) = some (.int .u8 (toPr x).2)) ∧ (Lit.int .u8 (toPr x).1).wf = true ∧ (Lit.int .u8 (toPr x).2).wf = true := by
      intro i x hx
      obtain ⟨cs', g1, g2, g3⟩ := h4 i x hx
      simp only [prTy, Ty.size] at g1 g2
      simp only [prTy, Holds] at g3
      obtain ⟨hl, hs, hh⟩ := g3
      obtain ⟨d, e, rfl⟩ : ∃ d e : Int, x = [d, e] := by
        match x, hl with
        | [d, e], _ => exact ⟨d, e, rfl⟩
      obtain ⟨u, t, rfl⟩ : ∃ u t, cs' = [u, t] := by
        match cs', g1 with
        | [u, t], _ => exact ⟨u, t, rfl⟩
      obtain ⟨hd, wd⟩ := hh 0 d rfl
      obtain ⟨he, we⟩ := hh 1 e rfl
      obtain rfl : u = .int .u8 d := by simpa [Ty.size] using hd
      obtain rfl : t = .int .u8 e := by simpa [Ty.size] using he
      exact ⟨⟨g2 0 _ rfl, g2 1 _ rfl⟩, wd, we⟩
    refine ⟨some a, cap, by simp, fun hl => ?_, by simp [maxLen] at h2 h3 ⊢; exact Nat.le_trans h2 h3, fun t ht => ?_⟩
    · have hl' : 0 < L.length := by simpa using hl
      obtain ⟨b, off, rfl⟩ := spot_none (el 0 L[0] (by simp [hl'])).1.1
      refine ⟨b, off, rfl, fun i hi => ?_⟩
      have hi' : i < L.length := by simpa using hi
      have := (el i L[i] (by simp [hi'])).1
      have e : (L.map toPr).getD i (0, 0) = toPr L[i] := by simp [List.getD_eq_getElem?_getD, hi']
      rw [e]
      simp only [Addr.add_lit] at this
      exact ⟨this.1, this.2⟩
    · simp only [List.mem_map] at ht
      obtain ⟨x, hx, rfl⟩ := ht
      obtain ⟨i, hi, rfl⟩ := List.getElem_of_mem hx
      exact (el i _ (by simp [hi])).2

end Go.Proofs.Ytmhkdpmcnaeaiaa
