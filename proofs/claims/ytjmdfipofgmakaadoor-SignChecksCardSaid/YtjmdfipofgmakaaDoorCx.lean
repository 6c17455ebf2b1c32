/-
  Arguments of statements, opened.
-/
import Derived.Test.YtjmdfipofgmakaaDoorCv
namespace Go.Proofs.YtjmdfipofgmakaaDoor
open Go.ChangeShapes Go.WideShapes Go.ChangeAt Go.RowKit
set_option linter.unusedVariables false
set_option linter.unusedSimpArgs false

theorem i64_wf' {n : Int} (h : (Lit.int .i64 n).wf = true) : I64 n := by
  have : -9223372036854775808 ≤ n ∧ n ≤ 9223372036854775807 := by simpa [Lit.wf, IntKind.min, IntKind.max, IntKind.signed, IntKind.bits] using h
  exact this
theorem str_arg {W : World} {s : ByteArray} {c : List Value} {v : Value} (h : Holds W .str s c) (hv : IsV .str c v) : v = .string s := by
  obtain ⟨h1, _⟩ := h
  simp only [IsV] at hv
  rw [h1] at hv
  injection hv with e
  exact e.symm
theorem int_arg {W : World} {n : Int} {c : List Value} {v : Value} (h : Holds W (.int .i64) n c) (hv : IsV (.int .i64) c v) : v = .int .i64 n ∧ I64 n := by
  obtain ⟨h1, h2⟩ := h
  simp only [IsV] at hv
  rw [h1] at hv
  injection hv with e
  exact ⟨e.symm, i64_wf' h2⟩
theorem cons_of_take {cs : List Value} {a : Value} (h : cs.take 1 = [a]) : cs = a :: cs.drop 1 := by
  match cs, h with
  | x :: r, h => simp at h; simp [h]
def chTy : Ty := .st [.int .i64, .int .i64, .int .i64, .str, .bool]
theorem chg_arg {W : World} {x : chTy.Val} {c : List Value} {v : Value} (h : Holds W chTy x c) (hv : IsV chTy c v) :
    v = .agg #[.int .i64 x.1, .int .i64 x.2.1, .int .i64 x.2.2.1, .string x.2.2.2.1, .bool x.2.2.2.2.1] ∧ I64 x.1 ∧ I64 x.2.1 ∧ I64 x.2.2.1 := by
  obtain ⟨⟨h0, k0⟩, ⟨h1, k1⟩, ⟨h2, k2⟩, ⟨h3, _⟩, h4, h5⟩ := h
  have e0 := cons_of_take h0
  have e1 := cons_of_take h1
  have e2 := cons_of_take h2
  have e3 := cons_of_take h3
  have e4 := cons_of_take h4
  simp only [Ty.size] at e0 e1 e2 e3 e4 h5
  have hv' : v = .agg c.toArray := hv
  rw [h5] at e4
  rw [e4] at e3
  rw [e3] at e2
  rw [e2] at e1
  rw [e1] at e0
  exact ⟨by rw [hv', e0], i64_wf' k0, i64_wf' k1, i64_wf' k2⟩
end Go.Proofs.YtjmdfipofgmakaaDoor
