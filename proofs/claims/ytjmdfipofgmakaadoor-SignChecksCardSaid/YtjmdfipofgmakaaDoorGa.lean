/-
  Package group's residue, Add and Sub, and the reference's: contracts.
-/
import Derived.Test.YtjmdfipofgmakaaDoorMem
import Derived.Test.YtjmdfipofgmakaaDoorProg
import Derived.IntWalk
namespace Go.Proofs.YtjmdfipofgmakaaDoor
open Go.RowKit
set_option linter.unusedVariables false
set_option linter.unusedSimpArgs false

theorem ret_int {k : IntKind} {a b : Int} (h : a = b) : Ending.returned (.int k a) = .returned (.int k b) := by rw [h]
/-- an int of Go's -/
def I64 (a : Int) : Prop := -9223372036854775808 ≤ a ∧ a ≤ 9223372036854775807

theorem tmod_neg (a m : Int) (hm : 1 ≤ m) (ha : a < 0) : (a.tmod m < 0 → a.tmod m + m = a % m) ∧ (¬ a.tmod m < 0 → a.tmod m = a % m) ∧ -m < a.tmod m ∧ a.tmod m ≤ 0 := by
  obtain ⟨b, rfl⟩ : ∃ b, a = -b := ⟨-a, by omega⟩
  rw [Int.neg_tmod, Int.tmod_eq_emod_of_nonneg (by omega)]
  have h0 := Int.emod_nonneg b (show m ≠ 0 by omega)
  have h1 := Int.emod_lt_of_pos b (show 0 < m by omega)
  have e := Int.mul_ediv_add_emod b m
  have e2 : -b = -(b % m) + m * (-(b / m)) := by rw [Int.mul_neg]; omega
  refine ⟨fun h => ?_, fun h => ?_, by omega, by omega⟩
  · have e4 : m * (-(b / m) - 1) = m * (-(b / m)) - m := by rw [Int.mul_sub, Int.mul_one]
    have e3 : -b = (m - b % m) + m * (-(b / m) - 1) := by omega
    rw [e3, Int.add_mul_emod_self_left, Int.emod_eq_of_lt (a := m - b % m) (by omega) (by omega)]
    omega
  · have h3 : b % m = 0 := by omega
    rw [e2, Int.add_mul_emod_self_left, h3]
    simp

theorem residue_any (a m : Int) (w : World) (hm : 1 ≤ m) (hm2 : m ≤ 9223372036854775807) (ha : -9223372036854775808 ≤ a) (ha2 : a ≤ 9223372036854775807) :
    Calls Tryd.prog 88 #[.int .i64 a, .int .i64 m] w fun e w' => e = .returned (.int .i64 (a % m)) ∧ w = w' := by
  have hb0 : (m == 0) = false := by simp; omega
  have e0 := Int.emod_nonneg a (show m ≠ 0 by omega)
  have e1 := Int.emod_lt_of_pos a (show 0 < m by omega)
  by_cases h0 : 0 ≤ a
  · go_enter Tryd.func88, Tryd.ntmps88
    go_wp2
    go_ret
    exact ⟨rfl, rfl⟩
  · obtain ⟨h1, h2, h3, h4⟩ := tmod_neg a m hm (by omega)
    have H1 := Lib.hid h1
    have H2 := Lib.hid h2
    clear h1 h2
    by_cases hn : a.tmod m < 0
    · go_enter Tryd.func88, Tryd.ntmps88
      go_wp2
      go_ret
      exact ⟨ret_int (H1.out (by assumption)), rfl⟩
    · go_enter Tryd.func88, Tryd.ntmps88
      go_wp2
      go_ret
      exact ⟨ret_int (H2.out (by omega)), rfl⟩
end Go.Proofs.YtjmdfipofgmakaaDoor
