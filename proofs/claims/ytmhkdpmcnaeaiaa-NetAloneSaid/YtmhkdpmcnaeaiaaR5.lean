/-
  NetAlone: for every script, times and time the statement's function returns true, and what was there before stays as it was.
-/
import Derived.Test.YtmhkdpmcnaeaiaaL5
namespace Go.Proofs.Ytmhkdpmcnaeaiaa
open Go.RowKit Go.ChangeShapes Go.WideShapes Go.ChangeAt
set_option linter.unusedVariables false

theorem open_ints_cap {k : IntKind} {w : World} {L : List Int} {cs : List Value} {v : Value} (h : Holds w (.sl (.int k)) L cs) (hv : IsV (.sl (.int k)) cs v) :
    ∃ A c, v = .slice A L.length c ∧ RdU k w A L ∧ L.length ≤ 9223372036854775807 ∧ L.length ≤ c ∧ ∀ x ∈ L, (Lit.int k x).wf = true := by
  simp only [IsV] at hv
  simp only [Holds] at h
  rcases h with ⟨h1, h2⟩ | ⟨a, cap, h1, h2, h3, h4⟩
  · rw [hv] at h1
    obtain rfl : v = .slice none 0 0 := by simpa using h1
    obtain rfl : L = [] := h2
    exact ⟨none, 0, rfl, fun h => by simp at h, by simp, by simp, fun t ht => by simp at ht⟩
  · rw [hv] at h1
    obtain rfl : v = .slice (some a) L.length cap := (List.cons.inj h1).1
    have el : ∀ (i : Nat) (x : Int), L[i]? = some x → w.cell? (a.add i) = some (.int k x) ∧ (Lit.int k x).wf = true := by
      intro i x hx
      obtain ⟨cs', g1, g2, g3⟩ := h4 i x hx
      simp only [Ty.size] at g1 g2 g3
      obtain ⟨rfl, hw⟩ := g3
      have := g2 0 _ rfl
      simp only [Nat.mul_one, Nat.add_zero] at this
      exact ⟨this, hw⟩
    refine ⟨some a, cap, rfl, fun hl => ?_, by simp [maxLen] at h2 h3 ⊢; exact Nat.le_trans h2 h3, h2, fun x hx => ?_⟩
    · have := (el 0 L[0] (by simp [hl])).1
      obtain ⟨b, off, rfl⟩ := spot_none (v := .int k L[0]) (by simpa using this)
      refine ⟨b, off, rfl, fun i hi => ?_⟩
      have := (el i L[i] (by simp [hi])).1
      simp only [Addr.add_lit] at this
      rw [this, List.getD_eq_getElem?_getD]
      simp [hi]
    · obtain ⟨i, hi, rfl⟩ := List.getElem_of_mem hx
      exact (el i _ (by simp [hi])).2

theorem u16_getD {L : List Int} (h : ∀ x ∈ L, (Lit.int .u16 x).wf = true) (i : Nat) : 0 ≤ L.getD i 0 ∧ L.getD i 0 ≤ 65535 := by
  rw [List.getD_eq_getElem?_getD]
  rcases hx : L[i]? with _ | x
  · exact ⟨by decide, by decide⟩
  · exact u16_bd (h x (List.mem_of_getElem? hx))

def ty5 : List Ty := [.sl trTy, .sl (.int .u16), .int .u16]
theorem walk5 (W : World) (vals : Ty.Vals ty5) (args : List Value) (h : ArgsHold W ty5 vals args) : Calls Try.prog 5 args.toArray W fun e W' => e = .returned (.bool true) ∧ Below W.heap.size W W' := by
  obtain ⟨L, T, now, _⟩ := vals
  obtain ⟨c0, v0, r0, rfl, hm, h0, c1, v1, r1, rfl, hl, h1, c2, v2, r2, rfl, ⟨rfl, wd⟩, h2, rfl⟩ := h
  obtain ⟨A, c, rfl, hr, hlen, hd⟩ := open_trs hm h0
  obtain ⟨U, d, rfl, hu, hlu, hcu, hwf⟩ := open_ints_cap hl h1
  obtain rfl : Value.int .u16 now = v2 := by simpa [IsV] using h2
  have b2 := u16_bd wd
  exact (alone_any A U c d _ _ now W hr hlen hd hu hlu hcu (u16_getD hwf) b2.1 b2.2).mono fun r W' ⟨h1, h2⟩ => ⟨h1, h2.below (fun _ h => h.elim) (Nat.le_refl _)⟩

set_option maxRecDepth 100000 in
theorem netAlone_holds : Rows.NetAloneSaid :=
  OpenClaim.holds_of_wide 5 Try.f5 rfl rfl rfl rfl rfl rfl rfl ⟨rfl, rfl, rfl, rfl, rfl⟩ rfl rfl rfl rfl rfl (by kernel_rfl) Try.func5 (by kernel_rfl)
    (of_decide_eq_true (by kernel_rfl)) (by unfold Func.isWrapper; first | (rw [if_pos (by decide +kernel)]; kernel_rfl) | (rw [if_neg (by decide +kernel)]; exact ⟨rfl, rfl⟩))
    (fun os started H enc _ => law_lifted 5 Try.f5 Rows.netAloneSpec _ ty5 4 os started H enc Try.func5 (by kernel_rfl) rfl rfl Try.underlying4 (by kernel_rfl) (by kernel_rfl)
      (fun ds h => by match ds, h with | [_, _, _], _ => rfl)
      (ChangeSpec.witness6 (enc := enc) (C := Try.checked) false ⟨#[], #[.slice none 0 0, .slice none 0 0, .int .u16 0], []⟩ 8 (by kernel_rfl) (by kernel_rfl) (by kernel_rfl) (by kernel_rfl)) walk5)

end Go.Proofs.Ytmhkdpmcnaeaiaa
