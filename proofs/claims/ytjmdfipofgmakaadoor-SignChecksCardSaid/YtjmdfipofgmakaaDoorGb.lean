/-
  Package group's Mul, Add and Sub: contracts.
-/
import Derived.Test.YtjmdfipofgmakaaDoorDb
namespace Go.Proofs.YtjmdfipofgmakaaDoor
open Go.RowKit
set_option linter.unusedVariables false
set_option linter.unusedSimpArgs false

theorem div64_zero (lo y : Nat) (w : World) (iy : (y : Int) ≤ 18446744073709551615) (il : (lo : Int) ≤ 18446744073709551615) (hy : 0 < y) :
    Calls Tryd.prog 97 #[.int .u64 0, .int .u64 lo, .int .u64 y] w fun e w' => e = .returned (.tuple #[.int .u64 (lo / y : Nat), .int .u64 (lo % y : Nat)]) ∧ ∃ n, w' = w.drewN n := by
  have hle : (lo : Int) / (y : Int) ≤ (lo : Int) := Int.ediv_le_self _ (by omega)
  have hq := wrap_same ((lo : Int) / (y : Int)) (Int.ediv_nonneg (by omega) (by omega)) (by omega)
  have HQ := Lib.hid hq
  clear hq hle
  have g1 : ((y : Int) == 0) = false := by simp; omega
  have g2 : ¬ (y : Int) ≤ 0 := by omega
  have g3 : (1 : Int) ≤ (y : Int) := by omega
  go_enter Tryd.func97, Tryd.ntmps97
  go_wp2_with fail
  go_quiet (fail)
  go_wp2_with fail
  go_ret2
  exact ⟨by rw [HQ.out]; simp, _, rfl⟩

/-- math/bits' Div64 -/
theorem div64_any (hi lo y : Nat) (w : World) (hy : y < 18446744073709551616) (hl : lo < 18446744073709551616) (hh : hi < y) :
    Calls Tryd.prog 97 #[.int .u64 hi, .int .u64 lo, .int .u64 y] w fun e w' => e = .returned (.tuple #[.int .u64 ((hi * 18446744073709551616 + lo) / y : Nat), .int .u64 ((hi * 18446744073709551616 + lo) % y : Nat)]) ∧ ∃ n, w' = w.drewN n := by
  rcases Nat.eq_zero_or_pos hi with h0 | h0
  · subst h0
    have := div64_zero lo y w (by omega) (by omega) hh
    simpa using this
  · exact (div64_pos hi lo y w hy hl hh h0).mono fun e w' ⟨h1, h2⟩ => ⟨h1, 0, by rw [← h2]; rfl⟩

theorem mul64_any (x y : Nat) (w : World) (hx : x < 18446744073709551616) (hy : y < 18446744073709551616) :
    Calls Tryd.prog 96 #[.int .u64 x, .int .u64 y] w fun e w' => e = .returned (.tuple #[.int .u64 ((x * y / 18446744073709551616 : Nat) : Int), .int .u64 ((x * y % 18446744073709551616 : Nat) : Int)]) ∧ w = w' :=
  (Tryd.bits_Mul64 x y hx hy w).mono fun _ _ ⟨h1, h2⟩ => ⟨h1, h2.symm⟩

/-- the parts of a product of residues -/
theorem mul_parts (a b m : Int) (hm : 1 ≤ m) : ∃ x y z : Nat, a % m = (x : Int) ∧ b % m = (y : Int) ∧ m = (z : Int) ∧ x < z ∧ y < z ∧ 0 < z ∧ a * b % m = ((x * y % z : Nat) : Int) ∧ x * y / 18446744073709551616 * 18446744073709551616 + x * y % 18446744073709551616 = x * y := by
  have a0 := Int.emod_nonneg a (show m ≠ 0 by omega)
  have a1 := Int.emod_lt_of_pos a (show 0 < m by omega)
  have b0 := Int.emod_nonneg b (show m ≠ 0 by omega)
  have b1 := Int.emod_lt_of_pos b (show 0 < m by omega)
  refine ⟨(a % m).toNat, (b % m).toNat, m.toNat, by omega, by omega, by omega, by omega, by omega, by omega, ?_, by rw [Nat.mul_comm]; exact Nat.div_add_mod _ _⟩
  rw [Int.natCast_emod, Int.natCast_mul, Int.toNat_of_nonneg a0, Int.toNat_of_nonneg b0, Int.toNat_of_nonneg (by omega : 0 ≤ m), ← Int.mul_emod]
theorem high_lt (x y z : Nat) (hx : x < z) (hy : y < z) (hz : z ≤ 9223372036854775807) : x * y / 18446744073709551616 < z := by
  rw [Nat.div_lt_iff_lt_mul (by omega)]
  have h1 : x * y ≤ x * 18446744073709551616 := Nat.mul_le_mul_left x (by omega)
  omega

/-- package group's Mul -/
theorem mul_any (a b m : Int) (w : World) (hm : 1 ≤ m) (hm2 : m ≤ 9223372036854775807) (ha : I64 a) (hb : I64 b) :
    Calls Tryd.prog 57 #[.int .i64 a, .int .i64 b, .int .i64 m] w fun e w' => e = .returned (.int .i64 (a * b % m)) ∧ ∃ n, w' = w.drewN n := by
  obtain ⟨x, y, z, e1, e2, rfl, hx, hy, hz, e3, e4⟩ := mul_parts a b m hm
  have hh := high_lt x y z hx hy (by omega)
  have E1 := Lib.hid e1
  have E2 := Lib.hid e2
  have E3 := Lib.hid (show a * b % (z : Int) = (x : Int) * (y : Int) % (z : Int) by rw [e3]; simp)
  have E4 := Lib.hid e4
  clear e1 e2 e3 e4
  go_enter Tryd.func57, Tryd.ntmps57
  go_wp2_with fail
  refine (residue_any a z _ hm hm2 ha.1 ha.2).mono ?_
  rw [E1.out]
  rintro e w' ⟨rfl, rfl⟩
  go_wp2_with fail
  refine (residue_any b z _ hm hm2 hb.1 hb.2).mono ?_
  rw [E2.out]
  rintro e w' ⟨rfl, rfl⟩
  have i1 : (x : Int) ≤ 9223372036854775807 := by omega
  have i2 : (y : Int) ≤ 9223372036854775807 := by omega
  go_wp2_with fail
  refine (mul64_any x y _ (by omega) (by omega)).mono ?_
  rintro e w' ⟨rfl, rfl⟩
  go_wp2_with fail
  refine (div64_any _ _ z _ (by omega) (Nat.mod_lt _ (by omega)) hh).mono ?_
  rw [E4.out]
  rintro e w' ⟨rfl, n, rfl⟩
  have i3 : (x : Int) * (y : Int) % (z : Int) ≤ 9223372036854775807 := by have := Int.emod_lt_of_pos ((x : Int) * (y : Int)) (show (0 : Int) < (z : Int) by omega); omega
  have i4 := Int.emod_nonneg ((x : Int) * (y : Int)) (show (z : Int) ≠ 0 by omega)
  go_wp2_with fail
  go_ret
  exact ⟨ret_int E3.out.symm, n, rfl⟩

/-- package group's Add -/
theorem add_any (a b m : Int) (w : World) (hm : 1 ≤ m) (hm2 : m ≤ 4611686018427387904) (ha : I64 a) (hb : I64 b) :
    Calls Tryd.prog 52 #[.int .i64 a, .int .i64 b, .int .i64 m] w fun e w' => e = .returned (.int .i64 ((a + b) % m)) ∧ w = w' := by
  obtain ⟨x, y, z, e1, e2, rfl, hx, hy, hz, e3, e4⟩ := mul_parts a b m hm
  have e5 : (a + b) % (z : Int) = ((x : Int) + (y : Int)) % (z : Int) := by rw [← e1, ← e2, ← Int.add_emod]
  have E1 := Lib.hid e1
  have E2 := Lib.hid e2
  have E5 := Lib.hid e5
  clear e1 e2 e3 e4 e5
  go_enter Tryd.func52, Tryd.ntmps52
  go_wp2_with fail
  refine (residue_any a z _ hm (by omega) ha.1 ha.2).mono ?_
  rw [E1.out]
  rintro e w' ⟨rfl, rfl⟩
  go_wp2_with fail
  refine (residue_any b z _ hm (by omega) hb.1 hb.2).mono ?_
  rw [E2.out]
  rintro e w' ⟨rfl, rfl⟩
  have i1 : (x : Int) ≤ 4611686018427387904 := by omega
  have i2 : (y : Int) ≤ 4611686018427387904 := by omega
  have i0 := Int.emod_nonneg ((x : Int) + (y : Int)) (show (z : Int) ≠ 0 by omega)
  have i3 := Int.emod_lt_of_pos ((x : Int) + (y : Int)) (show (0 : Int) < (z : Int) by omega)
  go_wp2_with fail
  go_ret
  exact ⟨ret_int E5.out.symm, rfl⟩
end Go.Proofs.YtjmdfipofgmakaaDoor
