/-
  sortesref03.rot: contract.
-/
import Derived.Test.YtjmdfipofgmakaaDoorSi
namespace Go.Proofs.YtjmdfipofgmakaaDoor
open Go.RowKit
set_option linter.unusedVariables false
set_option linter.unusedSimpArgs false

theorem rrot_any (x k : Int) (n : Nat) (w : World) (h1 : 1 ≤ n) (h2 : n ≤ 31) (hk : k = (n : Int)) :
    Calls Tryd.prog 146 #[.int .u32 x, .int .i64 k] w fun e w' => e = .returned (.int .u32 (rr x n)) ∧ ∃ j, w' = w.drewN j := by
  subst hk
  have i1 : (0 : Int) ≤ (n : Int) := by omega
  have i2 : (0 : Int) ≤ 32 - (n : Int) := by omega
  have i3 : (32 - (n : Int)).toNat = 32 - n := by omega
  go_enter Tryd.func146, Tryd.ntmps146
  go_wp2_with fail
  go_quiet (fail)
  go_wp2_with fail
  go_ret
  exact ⟨ret_u32 rfl, _, rfl⟩
end Go.Proofs.YtjmdfipofgmakaaDoor
