/-
  NetWhole: for every messages, nodes and delay the statement's function returns true, and what was there before stays as it was.
-/
import Derived.Test.YtmhkdpmcnaeaiaaL6
namespace Go.Proofs.Ytmhkdpmcnaeaiaa
open Go.RowKit Go.ChangeShapes Go.WideShapes Go.ChangeAt
set_option linter.unusedVariables false

theorem u8_bd {n : Int} (h : (Lit.int .u8 n).wf = true) : 0 ≤ n ∧ n ≤ 255 := by simpa [Lit.wf, IntKind.min, IntKind.max, IntKind.signed, IntKind.bits] using h
def ty6 : List Ty := [.sl msTy, .int .u8, .int .u16]
theorem walk6 (W : World) (vals : Ty.Vals ty6) (args : List Value) (h : ArgsHold W ty6 vals args) : Calls Try.prog 6 args.toArray W fun e W' => e = .returned (.bool true) ∧ Below W.heap.size W W' := by
  obtain ⟨L, nodes, delay, _⟩ := vals
  obtain ⟨c0, v0, r0, rfl, hm, h0, c1, v1, r1, rfl, ⟨rfl, wn⟩, h1, c2, v2, r2, rfl, ⟨rfl, wd⟩, h2, rfl⟩ := h
  obtain ⟨A, c, rfl, hr, hlen, hc⟩ := open_msgs hm h0
  obtain rfl : Value.int .u8 nodes = v1 := by simpa [IsV] using h1
  obtain rfl : Value.int .u16 delay = v2 := by simpa [IsV] using h2
  have b1 := u8_bd wn
  have b2 := u16_bd wd
  exact (whole_any A c _ nodes delay W hr hlen hc b1.1 b1.2 b2.1 b2.2).mono fun r W' ⟨h1, h2⟩ => ⟨h1, h2.below (fun _ h => h.elim) (Nat.le_refl _)⟩

set_option maxRecDepth 100000 in
theorem netWhole_holds : Rows.NetWholeSaid :=
  OpenClaim.holds_of_wide 6 Try.f6 rfl rfl rfl rfl rfl rfl rfl ⟨rfl, rfl, rfl, rfl, rfl⟩ rfl rfl rfl rfl rfl (by kernel_rfl) Try.func6 (by kernel_rfl)
    (of_decide_eq_true (by kernel_rfl)) (by unfold Func.isWrapper; first | (rw [if_pos (by decide +kernel)]; kernel_rfl) | (rw [if_neg (by decide +kernel)]; exact ⟨rfl, rfl⟩))
    (fun os started H enc _ => law_lifted 6 Try.f6 Rows.netWholeSpec _ ty6 4 os started H enc Try.func6 (by kernel_rfl) rfl rfl Try.underlying4 (by kernel_rfl) (by kernel_rfl)
      (fun ds h => by match ds, h with | [_, _, _], _ => rfl)
      (ChangeSpec.witness6 (enc := enc) (C := Try.checked) false ⟨#[], #[.slice none 0 0, .int .u8 0, .int .u16 0], []⟩ 8 (by kernel_rfl) (by kernel_rfl) (by kernel_rfl) (by kernel_rfl)) walk6)

end Go.Proofs.Ytmhkdpmcnaeaiaa
