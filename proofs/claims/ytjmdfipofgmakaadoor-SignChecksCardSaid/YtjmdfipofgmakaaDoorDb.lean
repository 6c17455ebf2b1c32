/-
  math/bits' Div64: quotient and rest, by its contract.
-/
import Derived.Test.YtjmdfipofgmakaaDoorDa
import Derived.Lib.ItoaNum
namespace Go.Proofs.YtjmdfipofgmakaaDoor
open Go.RowKit
set_option linter.unusedVariables false
set_option linter.unusedSimpArgs false

theorem wrap_u (n : Int) : IntKind.u64.wrap n = n % 18446744073709551616 := IntKind.wrap_u64 n
theorem wrap_chain (a b c t : Int) (h : a + b = c + t) (h0 : 0 ≤ t) (ht : t ≤ 18446744073709551615) : IntKind.u64.wrap (IntKind.u64.wrap (IntKind.u64.wrap a + b) - IntKind.u64.wrap c) = t := by
  simp only [wrap_u]; omega
theorem wrap_same (t : Int) (h0 : 0 ≤ t) (ht : t ≤ 18446744073709551615) : IntKind.u64.wrap t = t := by
  simp only [wrap_u]; omega

theorem wrap_rest (u y1 : Nat) (hu : (u : Int) ≤ 18446744073709551615) : IntKind.u64.wrap ((u : Int) - IntKind.u64.wrap (((u / y1 : Nat) : Int) * (y1 : Int))) = ((u % y1 : Nat) : Int) := by
  have h := Nat.div_add_mod u y1
  have : ((u / y1 : Nat) : Int) * (y1 : Int) = ((y1 * (u / y1) : Nat) : Int) := by rw [Nat.mul_comm]; simp
  rw [this]
  generalize y1 * (u / y1) = a at *
  generalize u % y1 = b at *
  rw [wrap_same (a : Int) (by omega) (by omega), wrap_same _ (by omega) (by omega)]
  omega
theorem wrap_quo (u y1 : Nat) (hu : (u : Int) ≤ 18446744073709551615) : IntKind.u64.wrap ((u : Int).tdiv (y1 : Int)) = ((u / y1 : Nat) : Int) := by
  have h := Nat.div_le_self u y1
  rw [Int.tdiv_eq_ediv_of_nonneg (by omega), ← Int.natCast_ediv]
  generalize u / y1 = a at *
  exact wrap_same _ (by omega) (by omega)

theorem div_pre (hi lo y s B N : Nat) (hB : 0 < B) (hN : N = B * B) (h2 : N = 2 ^ (64 - s) * 2 ^ s) (hlo : lo < N) (hhi : hi < y) :
    ∃ u L : Nat, u = hi * 2 ^ s + lo / 2 ^ (64 - s) ∧ L = lo * 2 ^ s % N ∧ lo / 2 ^ (64 - s) < 2 ^ s ∧ (hi * (B * B) + lo) * 2 ^ s = u * (B * B) + L / B * B + L % B ∧ u < y * 2 ^ s := by
  have ha : 0 < 2 ^ (64 - s) := Nat.two_pow_pos _
  have hb : 0 < 2 ^ s := Nat.two_pow_pos _
  generalize hA : 2 ^ (64 - s) = A at *
  generalize hT : 2 ^ s = T at *
  have e1 : lo * T = lo / A * N + lo * T % N := by
    have : lo * T / N = lo / A := by rw [h2, Nat.mul_div_mul_right _ _ hb]
    rw [← this, Nat.mul_comm _ N]
    exact (Nat.div_add_mod _ _).symm
  have e2 : lo / A < T := by rw [Nat.div_lt_iff_lt_mul ha, Nat.mul_comm, ← h2]; exact hlo
  refine ⟨_, _, rfl, rfl, e2, ?_, ?_⟩
  · rw [← hN, Nat.add_mul, Nat.add_mul, Nat.add_assoc, Nat.add_assoc, Nat.div_add_mod' , Nat.mul_right_comm]
    omega
  · have : hi * T + T ≤ y * T := by
      rw [← Nat.succ_mul]
      exact Nat.mul_le_mul_right _ hhi
    omega

set_option maxRecDepth 100000 in
theorem div64_pos (hi lo y : Nat) (w : World) (hy : y < 18446744073709551616) (hl : lo < 18446744073709551616) (hh : hi < y) (h0 : 0 < hi) :
    Calls Tryd.prog 97 #[.int .u64 hi, .int .u64 lo, .int .u64 y] w fun e w' => e = .returned (.tuple #[.int .u64 ((hi * 18446744073709551616 + lo) / y : Nat), .int .u64 ((hi * 18446744073709551616 + lo) % y : Nat)]) ∧ w = w' := by
  obtain ⟨c1, c2, c3⟩ := Lib.bitLenAux_bounds 64 y (by omega) (by omega)
  have hb : Lib.bitLen y ≤ 64 := Lib.bitLen_le y 64 (Nat.le_refl _) (by omega)
  obtain ⟨s, hs⟩ : ∃ s, 64 - Lib.bitLen y = s := ⟨_, rfl⟩
  have c1' : 1 ≤ Lib.bitLen y := c1
  have hs63 : s ≤ 63 := by omega
  obtain ⟨Y, hY⟩ : ∃ Y, y * 2 ^ s = Y := ⟨_, rfl⟩
  have hT : 2 ^ (64 - s) * 2 ^ s = 18446744073709551616 := by rw [← Nat.pow_add, show 64 - s + s = 64 by omega]
  have hbl : 64 - s = Lib.bitLen y := by omega
  have hY1 : Y < 18446744073709551616 := by
    rw [← hY, ← hT]
    refine Nat.mul_lt_mul_of_pos_right ?_ (Nat.two_pow_pos _)
    rw [hbl]; exact c3
  have hY2 : 9223372036854775808 ≤ Y := by
    have e : (9223372036854775808 : Nat) = 2 ^ (Lib.bitLen y - 1) * 2 ^ s := by rw [← Nat.pow_add, show Lib.bitLen y - 1 + s = 63 by omega]
    rw [← hY, e]
    exact Nat.mul_le_mul_right _ c2
  obtain ⟨u, L, hu, hL, hlt, hsum, huY⟩ := div_pre hi lo y s 4294967296 18446744073709551616 (by omega) (by omega) hT.symm hl hh
  rw [hY] at huY
  obtain ⟨y1, hy1⟩ : ∃ y1, Y / 4294967296 = y1 := ⟨_, rfl⟩
  obtain ⟨y0, hy0⟩ : ∃ y0, Y % 4294967296 = y0 := ⟨_, rfl⟩
  have eY : y1 * 4294967296 + y0 = Y := by omega
  obtain ⟨u1, hu1⟩ : ∃ u1, L / 4294967296 = u1 := ⟨_, rfl⟩
  obtain ⟨u0, hu0⟩ : ∃ u0, L % 4294967296 = u0 := ⟨_, rfl⟩
  have hL2 : L < 18446744073709551616 := by rw [hL]; exact Nat.mod_lt _ (by omega)
  have hy1p : 0 < y1 := by omega
  obtain ⟨D, hD⟩ : ∃ D, (u * 4294967296 + u1) / (y1 * 4294967296 + y0) = D := ⟨_, rfl⟩
  obtain ⟨r1, hr1⟩ : ∃ r1, (u * 4294967296 + u1) % (y1 * 4294967296 + y0) = r1 := ⟨_, rfl⟩
  obtain ⟨D0, hD0⟩ : ∃ D0, (r1 * 4294967296 + u0) / (y1 * 4294967296 + y0) = D0 := ⟨_, rfl⟩
  obtain ⟨z, hz⟩ : ∃ z, (r1 * 4294967296 + u0) % (y1 * 4294967296 + y0) = z := ⟨_, rfl⟩
  have d1 := Nat.div_add_mod (u * 4294967296 + u1) (y1 * 4294967296 + y0)
  rw [hD, hr1] at d1
  have d0 := Nat.div_add_mod (r1 * 4294967296 + u0) (y1 * 4294967296 + y0)
  rw [hD0, hz] at d0
  have l1 : r1 < Y := by rw [← hr1, ← eY]; exact Nat.mod_lt _ (by omega)
  have l0 : z < Y := by rw [← hz, ← eY]; exact Nat.mod_lt _ (by omega)
  have hDs : D < 4294967296 := by rw [← hD]; exact dig_small (by omega) (by omega)
  have hD0s : D0 < 4294967296 := by rw [← hD0]; exact dig_small (by omega) (by omega)
  have hun : hi * 2 ^ s ≤ u := by rw [hu]; exact Nat.le_add_right _ _
  have hhs : hi * 2 ^ s < 18446744073709551616 := by omega
  have hfin := two_digits (B := 4294967296) (u := u) hi lo y s Y u1 u0 D r1 D0 hY.symm (by rw [hu1, hu0] at hsum; exact hsum) (by omega) (by rw [← eY]; exact hD.symm) (by rw [← eY]; exact hr1.symm) (by rw [← eY]; exact hD0.symm)
  rw [← eY, hz] at hfin
  have m1 := Nat.div_add_mod u y1
  have m0 := Nat.div_add_mod r1 y1
  have k1 := Nat.mod_lt u hy1p
  have k0 := Nat.mod_lt r1 hy1p
  have q1u : u / y1 ≤ u := Nat.div_le_self _ _
  have q0u : r1 / y1 ≤ r1 := Nat.div_le_self _ _
  have E := div64_core hi lo y s Y y1 y0 (hi * 2 ^ s) u L u1 u0 (u / y1) (u % y1) D r1 (r1 / y1) (r1 % y1) D0 z w (by omega) (by omega) hh h0 hs63 (Lib.hid hs) hb
    (by rw [show (y : Int) * 2 ^ s = (Y : Int) by rw [← hY]; simp]; exact wrap_same _ (by omega) (by omega)) (by omega)
    (by rw [show (4294967295 : Int) = ((4294967295 : Nat) : Int) by rfl, u64_and_nat Y _ hY1 (by omega), ← hy0]; congr 1; exact Nat.and_two_pow_sub_one_eq_mod Y 32)
    (by rw [show (hi : Int) * 2 ^ s = ((hi * 2 ^ s : Nat) : Int) by simp]; exact wrap_same _ (by omega) (by omega))
    (by
      rw [show (lo : Int) / 2 ^ (64 - s) = ((lo / 2 ^ (64 - s) : Nat) : Int) by simp, u64_or_nat _ _ hhs (by have : lo / 2 ^ (64 - s) ≤ lo := Nat.div_le_self _ _; omega), nat_join s _ _ (Nat.mul_mod_left _ _) hlt, hu])
    (by rw [wrap_u, show (lo : Int) * 2 ^ s = ((lo * 2 ^ s : Nat) : Int) by simp, hL]; omega)
    (by omega)
    (by rw [show (4294967295 : Int) = ((4294967295 : Nat) : Int) by rfl, u64_and_nat L _ hL2 (by omega), ← hu0]; congr 1; exact Nat.and_two_pow_sub_one_eq_mod L 32)
    (by simp)
    (wrap_rest _ _ (by omega))
    (by
      have : (D : Int) * (Y : Int) = (((y1 * 4294967296 + y0) * D : Nat) : Int) := by rw [eY, Nat.mul_comm]; simp
      rw [this]
      exact wrap_chain _ _ _ _ (by omega) (by omega) (by omega))
    (wrap_quo _ _ (by omega))
    (wrap_rest _ _ (by omega))
    (by
      have : (D0 : Int) * (Y : Int) = (((y1 * 4294967296 + y0) * D0 : Nat) : Int) := by rw [eY, Nat.mul_comm]; simp
      rw [this]
      exact wrap_chain _ _ _ _ (by omega) (by omega) (by omega))
    hy1p (by omega) (by omega) (by omega) (by omega) (by omega) (by omega) (by omega) (by omega) (by omega)
    (by omega) (by omega) (Lib.hid (dig_start (by omega) hy1p)) (by unfold IsU; omega) hD (by omega) (by omega) (Lib.hid (dig_start (by omega) hy1p)) (by unfold IsU; omega) hD0
  refine E.mono ?_
  rintro e w' ⟨rfl, rfl⟩
  refine ⟨?_, rfl⟩
  rw [← hfin.1, ← hfin.2]
  simp
end Go.Proofs.YtjmdfipofgmakaaDoor
