/-
  NetOwn: for every script and number of messages the statement's function returns true, and what was there before stays as it was.
-/
import Derived.Test.YtmhkdpmcnaeaiaaL8
namespace Go.Proofs.Ytmhkdpmcnaeaiaa
open Go.RowKit Go.ChangeShapes Go.WideShapes Go.ChangeAt
set_option linter.unusedVariables false

theorem u8_bd {n : Int} (h : (Lit.int .u8 n).wf = true) : 0 ≤ n ∧ n ≤ 255 := by simpa [Lit.wf, IntKind.min, IntKind.max, IntKind.signed, IntKind.bits] using h
def ty8 : List Ty := [.sl trTy, .int .u8]
theorem walk8 (W : World) (vals : Ty.Vals ty8) (args : List Value) (h : ArgsHold W ty8 vals args) : Calls Try.prog 8 args.toArray W fun e W' => e = .returned (.bool true) ∧ Below W.heap.size W W' := by
  obtain ⟨L, many, _⟩ := vals
  obtain ⟨c0, v0, r0, rfl, hm, h0, c1, v1, r1, rfl, ⟨rfl, wn⟩, h1, rfl⟩ := h
  obtain ⟨A, c, rfl, hr, hlen, hd⟩ := open_trs hm h0
  obtain rfl : Value.int .u8 many = v1 := by simpa [IsV] using h1
  have b1 := u8_bd wn
  exact (own_any A c _ many W hr hlen hd b1.1 b1.2).mono fun r W' ⟨h1, h2⟩ => ⟨h1, h2.below (fun _ h => h.elim) (Nat.le_refl _)⟩

set_option maxRecDepth 100000 in
theorem netOwn_holds : Rows.NetOwnSaid :=
  OpenClaim.holds_of_wide 8 Try.f8 rfl rfl rfl rfl rfl rfl rfl ⟨rfl, rfl, rfl, rfl, rfl⟩ rfl rfl rfl rfl rfl (by kernel_rfl) Try.func8 (by kernel_rfl)
    (of_decide_eq_true (by kernel_rfl)) (by unfold Func.isWrapper; first | (rw [if_pos (by decide +kernel)]; kernel_rfl) | (rw [if_neg (by decide +kernel)]; exact ⟨rfl, rfl⟩))
    (fun os started H enc _ => law_lifted 8 Try.f8 Rows.netOwnSpec _ ty8 4 os started H enc Try.func8 (by kernel_rfl) rfl rfl Try.underlying4 (by kernel_rfl) (by kernel_rfl)
      (fun ds h => by match ds, h with | [_, _], _ => rfl)
      (ChangeSpec.witness6 (enc := enc) (C := Try.checked) false ⟨#[], #[.slice none 0 0, .int .u8 0], []⟩ 8 (by kernel_rfl) (by kernel_rfl) (by kernel_rfl) (by kernel_rfl)) walk8)

end Go.Proofs.Ytmhkdpmcnaeaiaa
