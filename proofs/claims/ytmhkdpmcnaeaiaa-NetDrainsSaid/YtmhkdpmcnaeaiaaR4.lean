/-
  NetDrains: for every script and times the statement's function returns true, and what was there before stays as it was.
-/
import Derived.Test.YtmhkdpmcnaeaiaaL4
namespace Go.Proofs.Ytmhkdpmcnaeaiaa
open Go.RowKit Go.ChangeShapes Go.WideShapes Go.ChangeAt
set_option linter.unusedVariables false

theorem u16_getD {L : List Int} (h : ∀ x ∈ L, (Lit.int .u16 x).wf = true) (i : Nat) : 0 ≤ L.getD i 0 ∧ L.getD i 0 ≤ 65535 := by
  rw [List.getD_eq_getElem?_getD]
  rcases hx : L[i]? with _ | x
  · exact ⟨by decide, by decide⟩
  · exact u16_bd (h x (List.mem_of_getElem? hx))

def ty4 : List Ty := [.sl trTy, .sl (.int .u16)]
theorem walk4 (W : World) (vals : Ty.Vals ty4) (args : List Value) (h : ArgsHold W ty4 vals args) : Calls Try.prog 4 args.toArray W fun e W' => e = .returned (.bool true) ∧ Below W.heap.size W W' := by
  obtain ⟨L, T, _⟩ := vals
  obtain ⟨c0, v0, r0, rfl, hm, h0, c1, v1, r1, rfl, hl, h1, rfl⟩ := h
  obtain ⟨A, c, rfl, hr, hlen, hd⟩ := open_trs hm h0
  obtain ⟨U, d, rfl, hu, hlu, hwf⟩ := open_ints hl h1
  exact (drains_any A U c d _ _ W hr hlen hd hu hlu (u16_getD hwf)).mono fun r W' ⟨h1, h2⟩ => ⟨h1, h2.below (fun _ h => h.elim) (Nat.le_refl _)⟩

set_option maxRecDepth 100000 in
theorem netDrains_holds : Rows.NetDrainsSaid :=
  OpenClaim.holds_of_wide 4 Try.f4 rfl rfl rfl rfl rfl rfl rfl ⟨rfl, rfl, rfl, rfl, rfl⟩ rfl rfl rfl rfl rfl (by kernel_rfl) Try.func4 (by kernel_rfl)
    (of_decide_eq_true (by kernel_rfl)) (by unfold Func.isWrapper; first | (rw [if_pos (by decide +kernel)]; kernel_rfl) | (rw [if_neg (by decide +kernel)]; exact ⟨rfl, rfl⟩))
    (fun os started H enc _ => law_lifted 4 Try.f4 Rows.netDrainsSpec _ ty4 4 os started H enc Try.func4 (by kernel_rfl) rfl rfl Try.underlying4 (by kernel_rfl) (by kernel_rfl)
      (fun ds h => by match ds, h with | [_, _], _ => rfl)
      (ChangeSpec.witness6 (enc := enc) (C := Try.checked) false ⟨#[], #[.slice none 0 0, .slice none 0 0], []⟩ 8 (by kernel_rfl) (by kernel_rfl) (by kernel_rfl) (by kernel_rfl)) walk4)

end Go.Proofs.Ytmhkdpmcnaeaiaa
