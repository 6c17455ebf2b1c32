/-
  Two nets at once, apart in memory; a script among the arguments.
-/
import Derived.Test.YtmhkdpmcnaeaiaaSc
import Derived.Test.YtmhkdpmcnaeaiaaL7
import Derived.Test.YtmhkdpmcnaeaiaaLw
namespace Go.Proofs.Ytmhkdpmcnaeaiaa
open Go.RowKit
set_option linter.unusedVariables false

/-- two nets, apart, all of whose blocks are from B on -/
def Two (B : Nat) (w : World) (n1 : Nat) (s1 : Nst) (n2 : Nat) (s2 : Nst) : Prop :=
  ∃ F1 F2, NetIs w n1 s1 F1 ∧ NetIs w n2 s2 F2 ∧ (∀ k, F1 k → B ≤ k) ∧ (∀ k, F2 k → B ≤ k) ∧ ∀ k, F1 k → ¬ F2 k

section
variable {B n1 n2 : Nat} {s1 s2 s1' : Nst} {w w' : World}
theorem Two.symm (h : Two B w n1 s1 n2 s2) : Two B w n2 s2 n1 s1 := by
  obtain ⟨F1, F2, h1, h2, h3, h4, h5⟩ := h
  exact ⟨F2, F1, h2, h1, h4, h3, fun k a b => h5 k b a⟩
theorem Two.keep (h : Two B w n1 s1 n2 s2) (ho : Only (fun _ => False) w w') : Two B w' n1 s1 n2 s2 := by
  obtain ⟨F1, F2, h1, h2, h3, h4, h5⟩ := h
  exact ⟨F1, F2, h1.only ho (fun _ _ h => h), h2.only ho (fun _ _ h => h), h3, h4, h5⟩
theorem Two.first (h : Two B w n1 s1 n2 s2) : NetB B w n1 s1 := by
  obtain ⟨F1, F2, h1, h2, h3, h4, h5⟩ := h
  exact ⟨F1, h1, h3⟩
theorem Two.mk (h1 : NetB B w n1 s1) (ho : Only (fun _ => False) w w') (h2 : NetB w.heap.size w' n2 s2) (hB : B ≤ w.heap.size) : Two B w' n1 s1 n2 s2 := by
  obtain ⟨F1, h1, h3⟩ := h1
  obtain ⟨F2, h2, h4⟩ := h2
  exact ⟨F1, F2, h1.only ho (fun _ _ h => h), h2, h3, fun k hk => Nat.le_trans hB (h4 k hk), fun k a b => by have := h1.lt k a; have := h4 k b; omega⟩
theorem Two.reorder (h : Two B w n1 s1 n2 s2) {ws : List Pc} (hp : s1.ws.Perm ws) : Two B w n1 { s1 with ws } n2 s2 := by
  obtain ⟨F1, F2, h1, h2, h3, h4, h5⟩ := h
  exact ⟨F1, F2, h1.reorder hp, h2, h3, h4, h5⟩
theorem two_turned {F1 F2 : Nat → Prop} (h1 : NetIs w n1 s1 F1) (h2 : NetIs w n2 s2 F2) (h3 : ∀ k, F1 k → B ≤ k) (h4 : ∀ k, F2 k → B ≤ k) (h5 : ∀ k, F1 k → ¬ F2 k) (hB : B ≤ w.heap.size) (ht : Turned n1 s1' F1 w w') :
    Two B w' n1 s1' n2 s2 ∧ Kept B w w' := by
  have hk := (NetB.turned h1 h3 hB ht).2
  obtain ⟨F', g1, g2, g3⟩ := ht
  refine ⟨⟨F', F2, g1, h2.only g2 (fun k a b => h5 k b a), fun k hk => (g3 k hk).elim (h3 k) fun h => by omega, h4, fun k a b => ?_⟩, hk⟩
  rcases g3 k a with h | h
  · exact h5 k h b
  · have := h2.lt k b
    omega
theorem send_T (now fr dt : Int) (tx : ByteArray) (h : Two B w n1 s1 n2 s2) (hB : B ≤ w.heap.size) (hm : s1.sc.length ≤ 1000000) (hsn : s1.sn < 1000000)
    (hb : s1.drops fr dt ∨ (-1000000000000 ≤ now ∧ now ≤ 1000000000000 ∧ s1.next.delay ≤ 1000000000000 ∧ s1.ws.length ≤ 900000)) :
    Calls Try.prog 15 #[.pointer (some ⟨n1, 0, none⟩), .int .i64 now, .agg #[.int .i64 fr, .int .i64 dt, .string tx]] w fun e w' => e = .returned (.tuple #[]) ∧ Two B w' n1 (s1.send now fr dt tx) n2 s2 ∧ Kept B w w' := by
  obtain ⟨F1, F2, h1, h2, h3, h4, h5⟩ := h
  exact (send_any n1 now fr dt tx s1 F1 w h1 hm hsn hb).mono fun _ _ ⟨e, ht⟩ => ⟨e, two_turned h1 h2 h3 h4 h5 hB ht⟩
theorem part_T (A : Option Addr) (c : Nat) (xs : List Int) (h : Two B w n1 s1 n2 s2) (hB : B ≤ w.heap.size) (hr : RdI w n1 A xs) (hm : xs.length ≤ 1000000) :
    Calls Try.prog 17 #[.pointer (some ⟨n1, 0, none⟩), .slice A xs.length c] w fun e w' => e = .returned (.tuple #[]) ∧ Two B w' n1 { s1 with gr := groupOf xs } n2 s2 ∧ Kept B w w' := by
  obtain ⟨F1, F2, h1, h2, h3, h4, h5⟩ := h
  exact (part_any n1 s1 F1 A c xs w h1 hr hm).mono fun _ _ ⟨e, ht⟩ => ⟨e, two_turned h1 h2 h3 h4 h5 hB ht⟩
/-- the next copy of the first of two nets -/
def NextT (B n1 : Nat) (s1 : Nst) (n2 : Nat) (s2 : Nst) (w : World) (r : Ending) (w' : World) : Prop :=
  (s1.ws = [] ∧ r = .returned (.tuple #[.agg #[.int .i64 0, .int .i64 0, .string ⟨#[]⟩], .int .i64 0, .bool false]) ∧ Two B w' n1 s1 n2 s2 ∧ Kept B w w') ∨
  ∃ p, p ∈ s1.ws ∧ (∀ q ∈ s1.ws, lt q p = false) ∧ r = .returned (.tuple #[.agg #[.int .i64 p.fr, .int .i64 p.ds, .string p.tx], .int .i64 p.tm, .bool true]) ∧
    ∀ ws', s1.ws.Perm (p :: ws') → Two B w' n1 { s1 with ws := ws' } n2 s2 ∧ Kept B w w'
theorem next_T (h : Two B w n1 s1 n2 s2) (hB : B ≤ w.heap.size) (hm : s1.ws.length < 1000000) : Calls Try.prog 19 #[.pointer (some ⟨n1, 0, none⟩)] w fun e w' => NextT B n1 s1 n2 s2 w e w' := by
  obtain ⟨F1, F2, h1, h2, h3, h4, h5⟩ := h
  refine (next_any n1 s1 F1 w h1 hm).mono fun e w' hn => ?_
  rcases hn with ⟨a, b, ht⟩ | ⟨p, a, b, c, ht⟩
  · exact .inl ⟨a, b, two_turned h1 h2 h3 h4 h5 hB ht⟩
  · exact .inr ⟨p, a, b, c, fun ws' hp => two_turned h1 h2 h3 h4 h5 hB (ht ws' hp)⟩
theorem nextT_empty (h : Two B w n1 s1 n2 s2) (hB : B ≤ w.heap.size) (hs : s1.ws = []) :
    Calls Try.prog 19 #[.pointer (some ⟨n1, 0, none⟩)] w fun e w' => e = .returned (.tuple #[.agg #[.int .i64 0, .int .i64 0, .string ⟨#[]⟩], .int .i64 0, .bool false]) ∧ Two B w' n1 s1 n2 s2 ∧ Kept B w w' := by
  refine (next_T h hB (by rw [hs]; decide)).mono fun e w' hn => ?_
  rcases hn with ⟨a, b, c⟩ | ⟨p', a, _⟩
  · exact ⟨b, c⟩
  · rw [hs] at a; cases a
end

def trTy : Ty := .st [.bool, .int .i64, .int .i64]
def toTr (x : trTy.Val) : Tr := ⟨x.1, x.2.1, x.2.2.1⟩
def i64ok (n : Int) : Prop := -9223372036854775808 ≤ n ∧ n ≤ 9223372036854775807
theorem i64_bd {n : Int} (h : (Lit.int .i64 n).wf = true) : i64ok n := by simpa [i64ok, Lit.wf, IntKind.min, IntKind.max, IntKind.signed, IntKind.bits] using h

theorem spot_none {w : World} {a : Addr} {v : Value} (h : w.cell? (a.add 0) = some v) : ∃ b off, a = ⟨b, off, none⟩ := by
  obtain ⟨b, off, spot⟩ := a
  have := World.cell?_spot h
  simp [Addr.add] at this
  exact ⟨b, off, by rw [this]⟩

theorem open_trs {w : World} {L : List trTy.Val} {cs : List Value} {v : Value} (h : Holds w (.sl trTy) L cs) (hv : IsV (.sl trTy) cs v) :
    ∃ A c, v = .slice A (L.map toTr).length c ∧ RdT w A (L.map toTr) ∧ (L.map toTr).length ≤ 9223372036854775807 ∧ ∀ t ∈ L.map toTr, i64ok t.delay := by
  simp only [IsV] at hv
  simp only [Holds] at h
  rcases h with ⟨h1, h2⟩ | ⟨a, cap, h1, h2, h3, h4⟩
  · rw [hv] at h1
    obtain rfl : v = .slice none 0 0 := by simpa using h1
    have : L = [] := h2
    subst this
    exact ⟨none, 0, rfl, fun h => by simp at h, by simp, fun t ht => by simp at ht⟩
  · rw [hv] at h1
    obtain rfl : v = .slice (some a) L.length cap := by simpa using h1
    have el : ∀ (i : Nat) (x : trTy.Val), L[i]? = some x → (w.cell? (a.add (i * 3 + 0)) = some (.bool (toTr x).lost) ∧ w.cell? (a.add (i * 3 + 1)) = some (.int .i64 (toTr x).copies) ∧ w.cell? (a.add (i * 3 + 2)) = some (.int .i64 (toTr x).delay)) ∧ i64ok (toTr x).delay := by
      intro i x hx
      obtain ⟨cs', g1, g2, g3⟩ := h4 i x hx
      obtain ⟨x0, x1, x2, xu⟩ := x
      simp only [trTy, Holds, HoldsAll, Ty.size, Ty.sizes] at g1 g2 g3
      match cs', g1 with
      | [c0, c1, c2], _ =>
        simp at g3
        obtain ⟨rfl, ⟨rfl, _⟩, rfl, hw⟩ := g3
        exact ⟨⟨g2 0 _ rfl, g2 1 _ rfl, g2 2 _ rfl⟩, i64_bd hw⟩
    refine ⟨some a, cap, by simp, fun hl => ?_, by simp [maxLen] at h2 h3 ⊢; exact Nat.le_trans h2 h3, fun t ht => ?_⟩
    · have hl' : 0 < L.length := by simpa using hl
      obtain ⟨b, off, rfl⟩ := spot_none (el 0 L[0] (by simp [hl'])).1.1
      refine ⟨b, off, rfl, fun i hi => ?_⟩
      have hi' : i < L.length := by simpa using hi
      have := (el i L[i] (by simp [hi'])).1
      simp only [Addr.add_lit, List.getElem_map] at this ⊢
      exact ⟨this.1, this.2.1, this.2.2⟩
    · simp only [List.mem_map] at ht
      obtain ⟨x, hx, rfl⟩ := ht
      obtain ⟨i, hi, rfl⟩ := List.getElem_of_mem hx
      exact (el i _ (by simp [hi])).2

end Go.Proofs.Ytmhkdpmcnaeaiaa
