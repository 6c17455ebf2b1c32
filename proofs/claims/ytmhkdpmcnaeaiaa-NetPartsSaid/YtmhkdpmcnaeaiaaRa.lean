/-
  NetParts: for every groups and messages the statement's function returns true, and what was there before stays as it was.
-/
import Derived.Test.YtmhkdpmcnaeaiaaLa
namespace Go.Proofs.Ytmhkdpmcnaeaiaa
open Go.RowKit Go.ChangeShapes Go.WideShapes Go.ChangeAt
set_option linter.unusedVariables false

theorem u8_bd {n : Int} (h : (Lit.int .u8 n).wf = true) : 0 ≤ n ∧ n ≤ 255 := by simpa [Lit.wf, IntKind.min, IntKind.max, IntKind.signed, IntKind.bits] using h
theorem i8_getD {L : List Int} (h : ∀ x ∈ L, (Lit.int .i8 x).wf = true) (i : Nat) : -128 ≤ L.getD i 0 ∧ L.getD i 0 ≤ 127 := by
  rw [List.getD_eq_getElem?_getD]
  rcases hx : L[i]? with _ | x
  · exact ⟨by decide, by decide⟩
  · have := h x (List.mem_of_getElem? hx)
    simpa [Lit.wf, IntKind.min, IntKind.max, IntKind.signed, IntKind.bits] using this
theorem pair_getD {L : List (Int × Int)} (h : ∀ x ∈ L, (Lit.int .u8 x.1).wf = true ∧ (Lit.int .u8 x.2).wf = true) (i : Nat) : 0 ≤ (L.getD i (0, 0)).1 ∧ (L.getD i (0, 0)).1 ≤ 255 ∧ 0 ≤ (L.getD i (0, 0)).2 ∧ (L.getD i (0, 0)).2 ≤ 255 := by
  rw [List.getD_eq_getElem?_getD]
  rcases hx : L[i]? with _ | x
  · exact ⟨by decide, by decide, by decide, by decide⟩
  · have := h x (List.mem_of_getElem? hx)
    have b1 := u8_bd this.1
    have b2 := u8_bd this.2
    exact ⟨b1.1, b1.2, b2.1, b2.2⟩
def tya : List Ty := [.sl (.int .i8), .sl prTy]
theorem walka (W : World) (vals : Ty.Vals tya) (args : List Value) (h : ArgsHold W tya vals args) : Calls Try.prog 10 args.toArray W fun e W' => e = .returned (.bool true) ∧ Below W.heap.size W W' := by
  obtain ⟨T, L, _⟩ := vals
  obtain ⟨c0, v0, r0, rfl, hm, h0, c1, v1, r1, rfl, hl, h1, rfl⟩ := h
  obtain ⟨A, c, rfl, hr, hlen, hwf⟩ := open_ints hm h0
  obtain ⟨U, d, rfl, hu, hlu, hwp⟩ := open_pairs hl h1
  refine (parts_any A U c d _ _ W hr hlen (i8_getD hwf) hu hlu (fun i => ?_)).mono fun r W' ⟨h1, h2⟩ => ⟨h1, h2.below (fun _ h => h.elim) (Nat.le_refl _)⟩
  have := pair_getD hwp i
  exact this

set_option maxRecDepth 100000 in
theorem netParts_holds : Rows.NetPartsSaid :=
  OpenClaim.holds_of_wide 10 Try.f10 rfl rfl rfl rfl rfl rfl rfl ⟨rfl, rfl, rfl, rfl, rfl⟩ rfl rfl rfl rfl rfl (by kernel_rfl) Try.func10 (by kernel_rfl)
    (of_decide_eq_true (by kernel_rfl)) (by unfold Func.isWrapper; first | (rw [if_pos (by decide +kernel)]; kernel_rfl) | (rw [if_neg (by decide +kernel)]; exact ⟨rfl, rfl⟩))
    (fun os started H enc _ => law_lifted 10 Try.f10 Rows.netPartsSpec _ tya 4 os started H enc Try.func10 (by kernel_rfl) rfl rfl Try.underlying4 (by kernel_rfl) (by kernel_rfl)
      (fun ds h => by match ds, h with | [_, _], _ => rfl)
      (ChangeSpec.witness6 (enc := enc) (C := Try.checked) false ⟨#[], #[.slice none 0 0, .slice none 0 0], []⟩ 8 (by kernel_rfl) (by kernel_rfl) (by kernel_rfl) (by kernel_rfl)) walka)

end Go.Proofs.Ytmhkdpmcnaeaiaa
