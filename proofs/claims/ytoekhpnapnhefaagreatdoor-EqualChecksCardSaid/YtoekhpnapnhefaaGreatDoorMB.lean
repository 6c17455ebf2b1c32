/-
  Package group's residue, Add and Sub, and the reference's: contracts.
  math/bits' Div64: the walk.
  math/bits' Div64: quotient and rest, by its contract.
  Package group's Mul, Add and Sub: contracts.
  Package group's Pow: contract.
  The reference of layer 4: Residue, plus, Add, Sub, Mul, Pow: contracts.
  Member of package group and of the reference: contracts; members in Int.
-/
import Derived.IntWalk
import Derived.Lib.ItoaNum
import Derived.Test.YtoekhpnapnhefaaGreatDoorMA
import Derived.Test.YtoekhpnapnhefaaGreatDoorProg
import Derived.Test.YtoekhpnapnhefaaGreatDoorShelf
namespace Go.Proofs.YtoekhpnapnhefaaGreatDoor
open Go.RowKit
set_option linter.unusedVariables false
set_option linter.unusedSimpArgs false

theorem ret_int {k : IntKind} {a b : Int} (h : a = b) : Ending.returned (.int k a) = .returned (.int k b) := by rw [h]
/-- an int of Go's -/
def I64 (a : Int) : Prop := -9223372036854775808 ≤ a ∧ a ≤ 9223372036854775807

theorem tmod_neg (a m : Int) (hm : 1 ≤ m) (ha : a < 0) : (a.tmod m < 0 → a.tmod m + m = a % m) ∧ (¬ a.tmod m < 0 → a.tmod m = a % m) ∧ -m < a.tmod m ∧ a.tmod m ≤ 0 := by
  obtain ⟨b, rfl⟩ : ∃ b, a = -b := ⟨-a, by omega⟩
  rw [Int.neg_tmod, Int.tmod_eq_emod_of_nonneg (by omega)]
  have h0 := Int.emod_nonneg b (show m ≠ 0 by omega)
  have h1 := Int.emod_lt_of_pos b (show 0 < m by omega)
  have e := Int.mul_ediv_add_emod b m
  have e2 : -b = -(b % m) + m * (-(b / m)) := by rw [Int.mul_neg]; omega
  refine ⟨fun h => ?_, fun h => ?_, by omega, by omega⟩
  · have e4 : m * (-(b / m) - 1) = m * (-(b / m)) - m := by rw [Int.mul_sub, Int.mul_one]
    have e3 : -b = (m - b % m) + m * (-(b / m) - 1) := by omega
    rw [e3, Int.add_mul_emod_self_left, Int.emod_eq_of_lt (a := m - b % m) (by omega) (by omega)]
    omega
  · have h3 : b % m = 0 := by omega
    rw [e2, Int.add_mul_emod_self_left, h3]
    simp

theorem residue_any (a m : Int) (w : World) (hm : 1 ≤ m) (hm2 : m ≤ 9223372036854775807) (ha : -9223372036854775808 ≤ a) (ha2 : a ≤ 9223372036854775807) :
    Calls Tryz.prog 78 #[.int .i64 a, .int .i64 m] w fun e w' => e = .returned (.int .i64 (a % m)) ∧ w = w' := by
  have hb0 : (m == 0) = false := by simp; omega
  have e0 := Int.emod_nonneg a (show m ≠ 0 by omega)
  have e1 := Int.emod_lt_of_pos a (show 0 < m by omega)
  by_cases h0 : 0 ≤ a
  · go_enter Tryz.func78, Tryz.ntmps78
    go_wp2
    go_ret
    exact ⟨rfl, rfl⟩
  · obtain ⟨h1, h2, h3, h4⟩ := tmod_neg a m hm (by omega)
    have H1 := Lib.hid h1
    have H2 := Lib.hid h2
    clear h1 h2
    by_cases hn : a.tmod m < 0
    · go_enter Tryz.func78, Tryz.ntmps78
      go_wp2
      go_ret
      exact ⟨ret_int (H1.out (by assumption)), rfl⟩
    · go_enter Tryz.func78, Tryz.ntmps78
      go_wp2
      go_ret
      exact ⟨ret_int (H2.out (by omega)), rfl⟩
end Go.Proofs.YtoekhpnapnhefaaGreatDoor

namespace Go.Proofs.YtoekhpnapnhefaaGreatDoor
open Go.RowKit
set_option linter.unusedVariables false
set_option linter.unusedSimpArgs false
theorem lz_any (y s : Nat) (w : World) (hy : y < 18446744073709551616) (hs : 64 - Lib.bitLen y = s) (hb : Lib.bitLen y ≤ 64) :
    Calls Tryz.prog 113 #[.int .u64 y] w fun e w' => e = .returned (.int .i64 (s : Int)) ∧ w = w' := by
  refine (Tryz.bits_LeadingZeros64 (y : Int) w (by omega) (by omega)).mono ?_
  rintro e w' ⟨rfl, rfl⟩
  exact ⟨ret_int (by rw [Int.toNat_natCast]; omega), rfl⟩

theorem div_round (B y1 y0 u u1 q r : Nat) (h : Dig B y1 y0 u u1 q r) (hy1 : 0 < y1) (hy0 : y0 < B) (hu : u < y1 * B + y0) (hu1 : u1 < B) (hr : r < B) :
    (B ≤ q ∨ r * B + u1 < q * y0 → 0 < q ∧ Dig B y1 y0 u u1 (q - 1) (r + y1) ∧ (B ≤ r + y1 → q - 1 = (u * B + u1) / (y1 * B + y0) ∧ q - 1 < B)) ∧
    (¬ (B ≤ q ∨ r * B + u1 < q * y0) → q = (u * B + u1) / (y1 * B + y0) ∧ q < B) := by
  have hpos : 0 < y1 * B + y0 := by
    have : 0 < y1 * B := Nat.mul_pos hy1 (by omega)
    omega
  refine ⟨fun ht => ?_, fun ht => ?_⟩
  · obtain ⟨h1, h2⟩ := dig_step h hu hu1 ht
    refine ⟨h1, h2, fun hb => ?_⟩
    exact ⟨dig_end h2 hpos (dig_stop h2 hy0 hu hb), dig_lt h2 hy0 hu hb⟩
  · exact ⟨dig_end h hpos (by omega), by omega⟩

def IsD (y1 y0 u u1 D : Nat) : Prop := (u * 4294967296 + u1) / (y1 * 4294967296 + y0) = D
def IsU (y1 y0 u : Nat) : Prop := u < y1 * 4294967296 + y0
theorem div_five (y1 y0 u u1 D q r : Nat) (h : Dig 4294967296 y1 y0 u u1 q r) (hD : IsD y1 y0 u u1 D) (hy1 : 0 < y1) (hy1' : y1 < 4294967296) (hy0 : y0 < 4294967296) (hu : IsU y1 y0 u) (hu1 : u1 < 4294967296) (hr : r < 4294967296) (hq : q < 18446744073709551616) :
    ((4294967296 : Int) ≤ (q : Int) ∧ (q : Int) ≤ 18446744073709551615 ∧ (4294967296 : Int) ≤ (r : Int) + (y1 : Int) ∧ (q : Int) - 1 = (D : Int)) ∨
    ((¬ (4294967296 : Int) ≤ (q : Int) ∧ (4294967296 : Int) * (r : Int) + (u1 : Int) < (q : Int) * (y0 : Int) ∧ (q : Int) * (y0 : Int) ≤ 18446744073709551615 ∧ 0 ≤ (q : Int) * (y0 : Int) ∧ 0 < (q : Int)) ∧ (4294967296 : Int) ≤ (r : Int) + (y1 : Int) ∧ (q : Int) - 1 = (D : Int)) ∨
    (¬ (4294967296 : Int) ≤ (q : Int) ∧ ¬ (4294967296 : Int) * (r : Int) + (u1 : Int) < (q : Int) * (y0 : Int) ∧ (q : Int) * (y0 : Int) ≤ 18446744073709551615 ∧ 0 ≤ (q : Int) * (y0 : Int) ∧ q = D) ∨
    ((4294967296 : Int) ≤ (q : Int) ∧ (q : Int) ≤ 18446744073709551615 ∧ ¬ (4294967296 : Int) ≤ (r : Int) + (y1 : Int) ∧ Dig 4294967296 y1 y0 u u1 (q - 1) (r + y1)) ∨
    ((¬ (4294967296 : Int) ≤ (q : Int) ∧ (4294967296 : Int) * (r : Int) + (u1 : Int) < (q : Int) * (y0 : Int) ∧ (q : Int) * (y0 : Int) ≤ 18446744073709551615 ∧ 0 ≤ (q : Int) * (y0 : Int) ∧ 0 < (q : Int)) ∧ ¬ (4294967296 : Int) ≤ (r : Int) + (y1 : Int) ∧ Dig 4294967296 y1 y0 u u1 (q - 1) (r + y1)) := by
  unfold IsD at hD
  unfold IsU at hu
  subst hD
  generalize hB : (4294967296 : Nat) = B at *
  have hBi : (4294967296 : Int) = (B : Int) := by omega
  rw [hBi]
  obtain ⟨rd1, rd2⟩ := div_round B y1 y0 u u1 q r h hy1 hy0 hu hu1 hr
  have hm : ((q * y0 : Nat) : Int) = (q : Int) * (y0 : Int) := by simp
  have hm2 : ((r * B : Nat) : Int) = (B : Int) * (r : Int) := by rw [Int.natCast_mul, Int.mul_comm]
  rw [← hm, ← hm2]
  by_cases h1 : B ≤ q
  · obtain ⟨a1, a2, a3⟩ := rd1 (.inl h1)
    by_cases h2 : B ≤ r + y1
    · have := (a3 h2).1
      exact .inl ⟨by omega, by omega, by omega, by rw [← this]; omega⟩
    · exact .inr (.inr (.inr (.inl ⟨by omega, by omega, by omega, a2⟩)))
  · have hqy : q * y0 ≤ B * B := Nat.mul_le_mul (by omega) (by omega)
    have hqy2 : q * y0 ≤ 18446744073709551615 := by
      have : q * y0 ≤ 4294967295 * 4294967295 := Nat.mul_le_mul (by omega) (by omega)
      omega
    by_cases h2 : r * B + u1 < q * y0
    · have hq0 : 0 < q := by
        rcases Nat.eq_zero_or_pos q with h | h
        · subst h; simp at h2
        · exact h
      obtain ⟨a1, a2, a3⟩ := rd1 (.inr h2)
      by_cases h3 : B ≤ r + y1
      · have := (a3 h3).1
        exact .inr (.inl ⟨⟨by omega, by omega, by omega, by omega, by omega⟩, by omega, by rw [← this]; omega⟩)
      · exact .inr (.inr (.inr (.inr ⟨⟨by omega, by omega, by omega, by omega, by omega⟩, by omega, a2⟩)))
    · exact .inr (.inr (.inl ⟨by omega, by omega, by omega, by omega, (rd2 (by omega)).1⟩))

set_option maxRecDepth 100000 in
set_option maxHeartbeats 4000000 in
theorem div64_core (hi lo y s Y y1 y0 hs' u L u1 u0 q r D r1 q0 r0 D0 z : Nat) (w : World) (iy : (y : Int) ≤ 18446744073709551615) (il : (lo : Int) ≤ 18446744073709551615) (hh : hi < y) (h0 : 0 < hi) (hs : s ≤ 63) (H : Hid (64 - Lib.bitLen y = s)) (hb : Lib.bitLen y ≤ 64)
    (E1 : IntKind.u64.wrap ((y : Int) * 2 ^ s) = (Y : Int)) (E2 : (Y : Int) / 4294967296 = (y1 : Int)) (E3 : bits BinOp.and IntKind.u64 (Y : Int) 4294967295 = (y0 : Int))
    (E4 : IntKind.u64.wrap ((hi : Int) * 2 ^ s) = (hs' : Int)) (E4' : bits BinOp.or IntKind.u64 (hs' : Int) ((lo : Int) / 2 ^ (64 - s)) = (u : Int)) (E5 : IntKind.u64.wrap ((lo : Int) * 2 ^ s) = (L : Int)) (E6 : (L : Int) / 4294967296 = (u1 : Int)) (E7 : bits BinOp.and IntKind.u64 (L : Int) 4294967295 = (u0 : Int))
    (E8 : (u : Int) / (y1 : Int) = (q : Int)) (E9 : IntKind.u64.wrap ((u : Int) - IntKind.u64.wrap ((q : Int) * (y1 : Int))) = (r : Int))
    (E10 : IntKind.u64.wrap (IntKind.u64.wrap (IntKind.u64.wrap ((u : Int) * 4294967296) + (u1 : Int)) - IntKind.u64.wrap ((D : Int) * (Y : Int))) = (r1 : Int)) (E11 : IntKind.u64.wrap ((r1 : Int).tdiv (y1 : Int)) = (q0 : Int)) (E12 : IntKind.u64.wrap ((r1 : Int) - IntKind.u64.wrap ((q0 : Int) * (y1 : Int))) = (r0 : Int))
    (E13 : IntKind.u64.wrap (IntKind.u64.wrap (IntKind.u64.wrap ((r1 : Int) * 4294967296) + (u0 : Int)) - IntKind.u64.wrap ((D0 : Int) * (Y : Int))) = (z : Int))
    (b1 : 0 < y1) (b2 : (y1 : Int) ≤ 4294967295) (b3 : (y0 : Int) ≤ 4294967295) (b4 : (u1 : Int) ≤ 4294967295) (b5 : (u0 : Int) ≤ 4294967295) (b6 : (u : Int) ≤ 18446744073709551615) (b7 : (Y : Int) ≤ 18446744073709551615) (b8 : (D : Int) ≤ 4294967295) (b9 : (D0 : Int) ≤ 4294967295) (b10 : (r1 : Int) ≤ 18446744073709551615)
    (ihq : (q : Int) ≤ 18446744073709551615) (ihr : (r : Int) ≤ 4294967295) (dgq : Hid (Dig 4294967296 y1 y0 u u1 q r)) (huu : IsU y1 y0 u) (hD : IsD y1 y0 u u1 D)
    (ihq0 : (q0 : Int) ≤ 18446744073709551615) (ihr0 : (r0 : Int) ≤ 4294967295) (dgq0 : Hid (Dig 4294967296 y1 y0 r1 u0 q0 r0)) (hur1 : IsU y1 y0 r1) (hD0 : IsD y1 y0 r1 u0 D0) :
    Calls Tryz.prog 81 #[.int .u64 hi, .int .u64 lo, .int .u64 y] w fun e w' => e = .returned (.tuple #[.int .u64 ((D : Int) * 4294967296 + (D0 : Int)), .int .u64 ((z : Int) / 2 ^ s)]) ∧ w = w' := by
  have g0 : ((hi : Int) == 0) = false := by simp; omega
  have g1 : ((y : Int) == 0) = false := by simp; omega
  have G10 := Lib.hid E10
  have G11 := Lib.hid E11
  have G12 := Lib.hid E12
  have G13 := Lib.hid E13
  clear E10 E11 E12 E13
  go_enter Tryz.func81, Tryz.ntmps81
  go_wp2_with fail
  refine (lz_any y s w (by omega) H.out hb).mono ?_
  rintro e w' ⟨rfl, rfl⟩
  go_wp2_with fail
  clear E1 E2 E3 E4 E4' E5 E6 E7 E8 E9
  go_loop [15, 16] (fun qv rv => ∃ a b : Nat, qv = .int .u64 a ∧ rv = .int .u64 b ∧ (a : Int) ≤ 18446744073709551615 ∧ (b : Int) ≤ 4294967295 ∧ Hid (Dig 4294967296 y1 y0 u u1 a b)) (fun qv _ => (intOf qv).toNat)
  case atStart => exact ⟨q, r, rfl, rfl, ihq, ihr, dgq⟩
  case round =>
    clear dgq ihq ihr
    obtain ⟨a, b, rfl, rfl, ha, hb2, dg⟩ := hrel
    have F := div_five y1 y0 u u1 D a b dg.out hD b1 (by omega) (by omega) huu (by omega) (by omega) (by omega)
    rcases F with ⟨f1, f2, f3, f4⟩ | ⟨⟨f1, f2, f5, f6, f7⟩, f3, f4⟩ | ⟨f1, f2, f3, f4, rfl⟩ | ⟨f1, f2, f3, f4⟩ | ⟨⟨f1, f2, f5, f6, f7⟩, f3, f4⟩
    rotate_left 3
    iterate 2
      have f4' := Lib.hid f4
      clear f4
      go_wp2_with fail
      go_round
      case rel => exact ⟨a - 1, b + y1, by congr 1; omega, by congr 1, by omega, by omega, f4'⟩
      case measure => simp [intOf]; omega
    all_goals
      clear dg hD
      have E10 := G10.out
      have E11 := G11.out
      have E12 := G12.out
      clear G10 G11 G12
      go_wp2_with fail
      rw [E10, E11, E12]
      clear E10 E11 E12 f1 f2 f3 f4
      go_loop [18, 16] (fun qv rv => ∃ a b : Nat, qv = .int .u64 a ∧ rv = .int .u64 b ∧ (a : Int) ≤ 18446744073709551615 ∧ (b : Int) ≤ 4294967295 ∧ Hid (Dig 4294967296 y1 y0 r1 u0 a b)) (fun qv _ => (intOf qv).toNat)
      case atStart => exact ⟨q0, r0, rfl, rfl, ihq0, ihr0, dgq0⟩
      case round =>
        clear dgq0 ihq0 ihr0
        obtain ⟨a, b, rfl, rfl, ha, hb2, dg⟩ := hrel
        have F := div_five y1 y0 r1 u0 D0 a b dg.out hD0 b1 (by omega) (by omega) hur1 (by omega) (by omega) (by omega)
        rcases F with ⟨f1, f2, f3, f4⟩ | ⟨⟨f1, f2, f5, f6, f7⟩, f3, f4⟩ | ⟨f1, f2, f3, f4, rfl⟩ | ⟨f1, f2, f3, f4⟩ | ⟨⟨f1, f2, f5, f6, f7⟩, f3, f4⟩
        rotate_left 3
        iterate 2
          have f4' := Lib.hid f4
          clear f4
          go_wp2_with fail
          go_round
          case rel => exact ⟨a - 1, b + y1, by congr 1; omega, by congr 1, by omega, by omega, f4'⟩
          case measure => simp [intOf]; omega
        all_goals
          clear dg hD0
          have E13 := G13.out
          clear G13
          go_wp2_with fail
          rw [E13]
          go_ret2
          exact ⟨rfl, rfl⟩
end Go.Proofs.YtoekhpnapnhefaaGreatDoor

namespace Go.Proofs.YtoekhpnapnhefaaGreatDoor
open Go.RowKit
set_option linter.unusedVariables false
set_option linter.unusedSimpArgs false

theorem wrap_u (n : Int) : IntKind.u64.wrap n = n % 18446744073709551616 := IntKind.wrap_u64 n
theorem wrap_chain (a b c t : Int) (h : a + b = c + t) (h0 : 0 ≤ t) (ht : t ≤ 18446744073709551615) : IntKind.u64.wrap (IntKind.u64.wrap (IntKind.u64.wrap a + b) - IntKind.u64.wrap c) = t := by
  simp only [wrap_u]; omega
theorem wrap_same (t : Int) (h0 : 0 ≤ t) (ht : t ≤ 18446744073709551615) : IntKind.u64.wrap t = t := by
  simp only [wrap_u]; omega

theorem wrap_rest (u y1 : Nat) (hu : (u : Int) ≤ 18446744073709551615) : IntKind.u64.wrap ((u : Int) - IntKind.u64.wrap (((u / y1 : Nat) : Int) * (y1 : Int))) = ((u % y1 : Nat) : Int) := by
  have h := Nat.div_add_mod u y1
  have : ((u / y1 : Nat) : Int) * (y1 : Int) = ((y1 * (u / y1) : Nat) : Int) := by rw [Nat.mul_comm]; simp
  rw [this]
  generalize y1 * (u / y1) = a at *
  generalize u % y1 = b at *
  rw [wrap_same (a : Int) (by omega) (by omega), wrap_same _ (by omega) (by omega)]
  omega
theorem wrap_quo (u y1 : Nat) (hu : (u : Int) ≤ 18446744073709551615) : IntKind.u64.wrap ((u : Int).tdiv (y1 : Int)) = ((u / y1 : Nat) : Int) := by
  have h := Nat.div_le_self u y1
  rw [Int.tdiv_eq_ediv_of_nonneg (by omega), ← Int.natCast_ediv]
  generalize u / y1 = a at *
  exact wrap_same _ (by omega) (by omega)

theorem div_pre (hi lo y s B N : Nat) (hB : 0 < B) (hN : N = B * B) (h2 : N = 2 ^ (64 - s) * 2 ^ s) (hlo : lo < N) (hhi : hi < y) :
    ∃ u L : Nat, u = hi * 2 ^ s + lo / 2 ^ (64 - s) ∧ L = lo * 2 ^ s % N ∧ lo / 2 ^ (64 - s) < 2 ^ s ∧ (hi * (B * B) + lo) * 2 ^ s = u * (B * B) + L / B * B + L % B ∧ u < y * 2 ^ s := by
  have ha : 0 < 2 ^ (64 - s) := Nat.two_pow_pos _
  have hb : 0 < 2 ^ s := Nat.two_pow_pos _
  generalize hA : 2 ^ (64 - s) = A at *
  generalize hT : 2 ^ s = T at *
  have e1 : lo * T = lo / A * N + lo * T % N := by
    have : lo * T / N = lo / A := by rw [h2, Nat.mul_div_mul_right _ _ hb]
    rw [← this, Nat.mul_comm _ N]
    exact (Nat.div_add_mod _ _).symm
  have e2 : lo / A < T := by rw [Nat.div_lt_iff_lt_mul ha, Nat.mul_comm, ← h2]; exact hlo
  refine ⟨_, _, rfl, rfl, e2, ?_, ?_⟩
  · rw [← hN, Nat.add_mul, Nat.add_mul, Nat.add_assoc, Nat.add_assoc, Nat.div_add_mod' , Nat.mul_right_comm]
    omega
  · have : hi * T + T ≤ y * T := by
      rw [← Nat.succ_mul]
      exact Nat.mul_le_mul_right _ hhi
    omega

set_option maxRecDepth 100000 in
theorem div64_pos (hi lo y : Nat) (w : World) (hy : y < 18446744073709551616) (hl : lo < 18446744073709551616) (hh : hi < y) (h0 : 0 < hi) :
    Calls Tryz.prog 81 #[.int .u64 hi, .int .u64 lo, .int .u64 y] w fun e w' => e = .returned (.tuple #[.int .u64 ((hi * 18446744073709551616 + lo) / y : Nat), .int .u64 ((hi * 18446744073709551616 + lo) % y : Nat)]) ∧ w = w' := by
  obtain ⟨c1, c2, c3⟩ := Lib.bitLenAux_bounds 64 y (by omega) (by omega)
  have hb : Lib.bitLen y ≤ 64 := Lib.bitLen_le y 64 (Nat.le_refl _) (by omega)
  obtain ⟨s, hs⟩ : ∃ s, 64 - Lib.bitLen y = s := ⟨_, rfl⟩
  have c1' : 1 ≤ Lib.bitLen y := c1
  have hs63 : s ≤ 63 := by omega
  obtain ⟨Y, hY⟩ : ∃ Y, y * 2 ^ s = Y := ⟨_, rfl⟩
  have hT : 2 ^ (64 - s) * 2 ^ s = 18446744073709551616 := by rw [← Nat.pow_add, show 64 - s + s = 64 by omega]
  have hbl : 64 - s = Lib.bitLen y := by omega
  have hY1 : Y < 18446744073709551616 := by
    rw [← hY, ← hT]
    refine Nat.mul_lt_mul_of_pos_right ?_ (Nat.two_pow_pos _)
    rw [hbl]; exact c3
  have hY2 : 9223372036854775808 ≤ Y := by
    have e : (9223372036854775808 : Nat) = 2 ^ (Lib.bitLen y - 1) * 2 ^ s := by rw [← Nat.pow_add, show Lib.bitLen y - 1 + s = 63 by omega]
    rw [← hY, e]
    exact Nat.mul_le_mul_right _ c2
  obtain ⟨u, L, hu, hL, hlt, hsum, huY⟩ := div_pre hi lo y s 4294967296 18446744073709551616 (by omega) (by omega) hT.symm hl hh
  rw [hY] at huY
  obtain ⟨y1, hy1⟩ : ∃ y1, Y / 4294967296 = y1 := ⟨_, rfl⟩
  obtain ⟨y0, hy0⟩ : ∃ y0, Y % 4294967296 = y0 := ⟨_, rfl⟩
  have eY : y1 * 4294967296 + y0 = Y := by omega
  obtain ⟨u1, hu1⟩ : ∃ u1, L / 4294967296 = u1 := ⟨_, rfl⟩
  obtain ⟨u0, hu0⟩ : ∃ u0, L % 4294967296 = u0 := ⟨_, rfl⟩
  have hL2 : L < 18446744073709551616 := by rw [hL]; exact Nat.mod_lt _ (by omega)
  have hy1p : 0 < y1 := by omega
  obtain ⟨D, hD⟩ : ∃ D, (u * 4294967296 + u1) / (y1 * 4294967296 + y0) = D := ⟨_, rfl⟩
  obtain ⟨r1, hr1⟩ : ∃ r1, (u * 4294967296 + u1) % (y1 * 4294967296 + y0) = r1 := ⟨_, rfl⟩
  obtain ⟨D0, hD0⟩ : ∃ D0, (r1 * 4294967296 + u0) / (y1 * 4294967296 + y0) = D0 := ⟨_, rfl⟩
  obtain ⟨z, hz⟩ : ∃ z, (r1 * 4294967296 + u0) % (y1 * 4294967296 + y0) = z := ⟨_, rfl⟩
  have d1 := Nat.div_add_mod (u * 4294967296 + u1) (y1 * 4294967296 + y0)
  rw [hD, hr1] at d1
  have d0 := Nat.div_add_mod (r1 * 4294967296 + u0) (y1 * 4294967296 + y0)
  rw [hD0, hz] at d0
  have l1 : r1 < Y := by rw [← hr1, ← eY]; exact Nat.mod_lt _ (by omega)
  have l0 : z < Y := by rw [← hz, ← eY]; exact Nat.mod_lt _ (by omega)
  have hDs : D < 4294967296 := by rw [← hD]; exact dig_small (by omega) (by omega)
  have hD0s : D0 < 4294967296 := by rw [← hD0]; exact dig_small (by omega) (by omega)
  have hun : hi * 2 ^ s ≤ u := by rw [hu]; exact Nat.le_add_right _ _
  have hhs : hi * 2 ^ s < 18446744073709551616 := by omega
  have hfin := two_digits (B := 4294967296) (u := u) hi lo y s Y u1 u0 D r1 D0 hY.symm (by rw [hu1, hu0] at hsum; exact hsum) (by omega) (by rw [← eY]; exact hD.symm) (by rw [← eY]; exact hr1.symm) (by rw [← eY]; exact hD0.symm)
  rw [← eY, hz] at hfin
  have m1 := Nat.div_add_mod u y1
  have m0 := Nat.div_add_mod r1 y1
  have k1 := Nat.mod_lt u hy1p
  have k0 := Nat.mod_lt r1 hy1p
  have q1u : u / y1 ≤ u := Nat.div_le_self _ _
  have q0u : r1 / y1 ≤ r1 := Nat.div_le_self _ _
  have E := div64_core hi lo y s Y y1 y0 (hi * 2 ^ s) u L u1 u0 (u / y1) (u % y1) D r1 (r1 / y1) (r1 % y1) D0 z w (by omega) (by omega) hh h0 hs63 (Lib.hid hs) hb
    (by rw [show (y : Int) * 2 ^ s = (Y : Int) by rw [← hY]; simp]; exact wrap_same _ (by omega) (by omega)) (by omega)
    (by rw [show (4294967295 : Int) = ((4294967295 : Nat) : Int) by rfl, u64_and_nat Y _ hY1 (by omega), ← hy0]; congr 1; exact Nat.and_two_pow_sub_one_eq_mod Y 32)
    (by rw [show (hi : Int) * 2 ^ s = ((hi * 2 ^ s : Nat) : Int) by simp]; exact wrap_same _ (by omega) (by omega))
    (by
      rw [show (lo : Int) / 2 ^ (64 - s) = ((lo / 2 ^ (64 - s) : Nat) : Int) by simp, u64_or_nat _ _ hhs (by have : lo / 2 ^ (64 - s) ≤ lo := Nat.div_le_self _ _; omega), nat_join s _ _ (Nat.mul_mod_left _ _) hlt, hu])
    (by rw [wrap_u, show (lo : Int) * 2 ^ s = ((lo * 2 ^ s : Nat) : Int) by simp, hL]; omega)
    (by omega)
    (by rw [show (4294967295 : Int) = ((4294967295 : Nat) : Int) by rfl, u64_and_nat L _ hL2 (by omega), ← hu0]; congr 1; exact Nat.and_two_pow_sub_one_eq_mod L 32)
    (by simp)
    (wrap_rest _ _ (by omega))
    (by
      have : (D : Int) * (Y : Int) = (((y1 * 4294967296 + y0) * D : Nat) : Int) := by rw [eY, Nat.mul_comm]; simp
      rw [this]
      exact wrap_chain _ _ _ _ (by omega) (by omega) (by omega))
    (wrap_quo _ _ (by omega))
    (wrap_rest _ _ (by omega))
    (by
      have : (D0 : Int) * (Y : Int) = (((y1 * 4294967296 + y0) * D0 : Nat) : Int) := by rw [eY, Nat.mul_comm]; simp
      rw [this]
      exact wrap_chain _ _ _ _ (by omega) (by omega) (by omega))
    hy1p (by omega) (by omega) (by omega) (by omega) (by omega) (by omega) (by omega) (by omega) (by omega)
    (by omega) (by omega) (Lib.hid (dig_start (by omega) hy1p)) (by unfold IsU; omega) hD (by omega) (by omega) (Lib.hid (dig_start (by omega) hy1p)) (by unfold IsU; omega) hD0
  refine E.mono ?_
  rintro e w' ⟨rfl, rfl⟩
  refine ⟨?_, rfl⟩
  rw [← hfin.1, ← hfin.2]
  simp
end Go.Proofs.YtoekhpnapnhefaaGreatDoor

namespace Go.Proofs.YtoekhpnapnhefaaGreatDoor
open Go.RowKit
set_option linter.unusedVariables false
set_option linter.unusedSimpArgs false

theorem div64_zero (lo y : Nat) (w : World) (iy : (y : Int) ≤ 18446744073709551615) (il : (lo : Int) ≤ 18446744073709551615) (hy : 0 < y) :
    Calls Tryz.prog 81 #[.int .u64 0, .int .u64 lo, .int .u64 y] w fun e w' => e = .returned (.tuple #[.int .u64 (lo / y : Nat), .int .u64 (lo % y : Nat)]) ∧ ∃ n, w' = w.drewN n := by
  have hle : (lo : Int) / (y : Int) ≤ (lo : Int) := Int.ediv_le_self _ (by omega)
  have hq := wrap_same ((lo : Int) / (y : Int)) (Int.ediv_nonneg (by omega) (by omega)) (by omega)
  have HQ := Lib.hid hq
  clear hq hle
  have g1 : ((y : Int) == 0) = false := by simp; omega
  have g2 : ¬ (y : Int) ≤ 0 := by omega
  have g3 : (1 : Int) ≤ (y : Int) := by omega
  go_enter Tryz.func81, Tryz.ntmps81
  go_wp2_with fail
  go_quiet (fail)
  go_wp2_with fail
  go_ret2
  exact ⟨by rw [HQ.out]; simp, _, rfl⟩

/-- math/bits' Div64 -/
theorem div64_any (hi lo y : Nat) (w : World) (hy : y < 18446744073709551616) (hl : lo < 18446744073709551616) (hh : hi < y) :
    Calls Tryz.prog 81 #[.int .u64 hi, .int .u64 lo, .int .u64 y] w fun e w' => e = .returned (.tuple #[.int .u64 ((hi * 18446744073709551616 + lo) / y : Nat), .int .u64 ((hi * 18446744073709551616 + lo) % y : Nat)]) ∧ ∃ n, w' = w.drewN n := by
  rcases Nat.eq_zero_or_pos hi with h0 | h0
  · subst h0
    have := div64_zero lo y w (by omega) (by omega) hh
    simpa using this
  · exact (div64_pos hi lo y w hy hl hh h0).mono fun e w' ⟨h1, h2⟩ => ⟨h1, 0, by rw [← h2]; rfl⟩

theorem mul64_any (x y : Nat) (w : World) (hx : x < 18446744073709551616) (hy : y < 18446744073709551616) :
    Calls Tryz.prog 80 #[.int .u64 x, .int .u64 y] w fun e w' => e = .returned (.tuple #[.int .u64 ((x * y / 18446744073709551616 : Nat) : Int), .int .u64 ((x * y % 18446744073709551616 : Nat) : Int)]) ∧ w = w' :=
  (Tryz.bits_Mul64 x y hx hy w).mono fun _ _ ⟨h1, h2⟩ => ⟨h1, h2.symm⟩

/-- the parts of a product of residues -/
theorem mul_parts (a b m : Int) (hm : 1 ≤ m) : ∃ x y z : Nat, a % m = (x : Int) ∧ b % m = (y : Int) ∧ m = (z : Int) ∧ x < z ∧ y < z ∧ 0 < z ∧ a * b % m = ((x * y % z : Nat) : Int) ∧ x * y / 18446744073709551616 * 18446744073709551616 + x * y % 18446744073709551616 = x * y := by
  have a0 := Int.emod_nonneg a (show m ≠ 0 by omega)
  have a1 := Int.emod_lt_of_pos a (show 0 < m by omega)
  have b0 := Int.emod_nonneg b (show m ≠ 0 by omega)
  have b1 := Int.emod_lt_of_pos b (show 0 < m by omega)
  refine ⟨(a % m).toNat, (b % m).toNat, m.toNat, by omega, by omega, by omega, by omega, by omega, by omega, ?_, by rw [Nat.mul_comm]; exact Nat.div_add_mod _ _⟩
  rw [Int.natCast_emod, Int.natCast_mul, Int.toNat_of_nonneg a0, Int.toNat_of_nonneg b0, Int.toNat_of_nonneg (by omega : 0 ≤ m), ← Int.mul_emod]
theorem high_lt (x y z : Nat) (hx : x < z) (hy : y < z) (hz : z ≤ 9223372036854775807) : x * y / 18446744073709551616 < z := by
  rw [Nat.div_lt_iff_lt_mul (by omega)]
  have h1 : x * y ≤ x * 18446744073709551616 := Nat.mul_le_mul_left x (by omega)
  omega

/-- package group's Mul -/
theorem mul_any (a b m : Int) (w : World) (hm : 1 ≤ m) (hm2 : m ≤ 9223372036854775807) (ha : I64 a) (hb : I64 b) :
    Calls Tryz.prog 33 #[.int .i64 a, .int .i64 b, .int .i64 m] w fun e w' => e = .returned (.int .i64 (a * b % m)) ∧ ∃ n, w' = w.drewN n := by
  obtain ⟨x, y, z, e1, e2, rfl, hx, hy, hz, e3, e4⟩ := mul_parts a b m hm
  have hh := high_lt x y z hx hy (by omega)
  have E1 := Lib.hid e1
  have E2 := Lib.hid e2
  have E3 := Lib.hid (show a * b % (z : Int) = (x : Int) * (y : Int) % (z : Int) by rw [e3]; simp)
  have E4 := Lib.hid e4
  clear e1 e2 e3 e4
  go_enter Tryz.func33, Tryz.ntmps33
  go_wp2_with fail
  refine (residue_any a z _ hm hm2 ha.1 ha.2).mono ?_
  rw [E1.out]
  rintro e w' ⟨rfl, rfl⟩
  go_wp2_with fail
  refine (residue_any b z _ hm hm2 hb.1 hb.2).mono ?_
  rw [E2.out]
  rintro e w' ⟨rfl, rfl⟩
  have i1 : (x : Int) ≤ 9223372036854775807 := by omega
  have i2 : (y : Int) ≤ 9223372036854775807 := by omega
  go_wp2_with fail
  refine (mul64_any x y _ (by omega) (by omega)).mono ?_
  rintro e w' ⟨rfl, rfl⟩
  go_wp2_with fail
  refine (div64_any _ _ z _ (by omega) (Nat.mod_lt _ (by omega)) hh).mono ?_
  rw [E4.out]
  rintro e w' ⟨rfl, n, rfl⟩
  have i3 : (x : Int) * (y : Int) % (z : Int) ≤ 9223372036854775807 := by have := Int.emod_lt_of_pos ((x : Int) * (y : Int)) (show (0 : Int) < (z : Int) by omega); omega
  have i4 := Int.emod_nonneg ((x : Int) * (y : Int)) (show (z : Int) ≠ 0 by omega)
  go_wp2_with fail
  go_ret
  exact ⟨ret_int E3.out.symm, n, rfl⟩

/-- package group's Add -/
theorem add_any (a b m : Int) (w : World) (hm : 1 ≤ m) (hm2 : m ≤ 4611686018427387904) (ha : I64 a) (hb : I64 b) :
    Calls Tryz.prog 72 #[.int .i64 a, .int .i64 b, .int .i64 m] w fun e w' => e = .returned (.int .i64 ((a + b) % m)) ∧ w = w' := by
  obtain ⟨x, y, z, e1, e2, rfl, hx, hy, hz, e3, e4⟩ := mul_parts a b m hm
  have e5 : (a + b) % (z : Int) = ((x : Int) + (y : Int)) % (z : Int) := by rw [← e1, ← e2, ← Int.add_emod]
  have E1 := Lib.hid e1
  have E2 := Lib.hid e2
  have E5 := Lib.hid e5
  clear e1 e2 e3 e4 e5
  go_enter Tryz.func72, Tryz.ntmps72
  go_wp2_with fail
  refine (residue_any a z _ hm (by omega) ha.1 ha.2).mono ?_
  rw [E1.out]
  rintro e w' ⟨rfl, rfl⟩
  go_wp2_with fail
  refine (residue_any b z _ hm (by omega) hb.1 hb.2).mono ?_
  rw [E2.out]
  rintro e w' ⟨rfl, rfl⟩
  have i1 : (x : Int) ≤ 4611686018427387904 := by omega
  have i2 : (y : Int) ≤ 4611686018427387904 := by omega
  have i0 := Int.emod_nonneg ((x : Int) + (y : Int)) (show (z : Int) ≠ 0 by omega)
  have i3 := Int.emod_lt_of_pos ((x : Int) + (y : Int)) (show (0 : Int) < (z : Int) by omega)
  go_wp2_with fail
  go_ret
  exact ⟨ret_int E5.out.symm, rfl⟩
end Go.Proofs.YtoekhpnapnhefaaGreatDoor

namespace Go.Proofs.YtoekhpnapnhefaaGreatDoor
open Go.RowKit
set_option linter.unusedVariables false
set_option linter.unusedSimpArgs false

def pm (a : Int) (e : Nat) (m : Int) : Int := a ^ e % m
theorem pm_bd (a : Int) (e : Nat) (m : Int) (hm : 1 ≤ m) : 0 ≤ pm a e m ∧ pm a e m < m := ⟨Int.emod_nonneg _ (by omega), Int.emod_lt_of_pos _ (by omega)⟩
theorem pm_even (a : Int) (e : Nat) (m : Int) : pm a e m * pm a e m % m = pm a (2 * e) m := by
  unfold pm; rw [← Int.mul_emod, ← Int.pow_add, ← Nat.two_mul]
theorem pm_odd (a : Int) (e : Nat) (m : Int) : pm a e m * a % m = pm a (e + 1) m := by
  unfold pm; rw [Int.pow_succ, Int.mul_emod, Int.emod_emod, ← Int.mul_emod]

/-- the closure in Pow: one binary digit -/
def stepI (x a m b : Int) : Int := if b = 1 then x * x % m * a % m else x * x % m
theorem step_any (bx bm ba : Nat) (x a m b : Int) (w : World) (hx : At w bx 3 [.int .i64 x]) (hmm : At w bm 3 [.int .i64 m]) (haa : At w ba 3 [.int .i64 a]) (n1 : bx ≠ bm) (n2 : bx ≠ ba) (hm : 1 ≤ m) (hm2 : m ≤ 9223372036854775807) (ha : I64 a) (hxi : I64 x) :
    Calls Tryz.prog 79 #[.int .i64 b, .pointer (some ⟨bx, 0, none⟩), .pointer (some ⟨bm, 0, none⟩), .pointer (some ⟨ba, 0, none⟩)] w fun e w' => e = .returned (.tuple #[]) ∧ At w' bx 3 [.int .i64 (stepI x a m b)] ∧ Only (· = bx) w w' := by
  have c1 := hx.cell (i := 0) rfl
  have c2 := hmm.cell (i := 0) rfl
  have c3 := haa.cell (i := 0) rfl
  have f1 := hx.frozen 0
  have e0 := Int.emod_nonneg (x * x) (show m ≠ 0 by omega)
  have e1 := Int.emod_lt_of_pos (x * x) (show 0 < m by omega)
  have HX := Lib.hid hx
  by_cases hb : b = 1
  · have hb' : (b == 1) = true := by simp [hb]
    have HB := Lib.hid hb
    clear hb hx hmm haa
    go_enter Tryz.func79, Tryz.ntmps79
    go_wp2_with fail
    refine (mul_any x x m _ hm hm2 hxi hxi).mono ?_
    rintro e w' ⟨rfl, k, rfl⟩
    go_wp2_with fail
    refine (mul_any _ a m _ hm hm2 ⟨by omega, by omega⟩ ha).mono ?_
    rintro e w' ⟨rfl, k2, rfl⟩
    go_wp2_with fail
    go_end0
    refine ⟨rfl, ?_, ?_⟩
    · unfold stepI
      rw [if_pos HB.out]
      exact ((((HX.out.drewN _).put 0 _).drewN _).put 0 _)
    · exact ((((Only.refl (· = bx) w).drewN _).put (fun _ => rfl) _).drewN _).put (fun _ => rfl) _
  · have hb' : (b == 1) = false := by simp [hb]
    have HB := Lib.hid hb
    clear hb hx hmm haa
    go_enter Tryz.func79, Tryz.ntmps79
    go_wp2_with fail
    refine (mul_any x x m _ hm hm2 hxi hxi).mono ?_
    rintro e w' ⟨rfl, k, rfl⟩
    go_wp2_with fail
    go_end0
    refine ⟨rfl, ?_, ?_⟩
    · unfold stepI
      rw [if_neg HB.out]
      exact ((HX.out.drewN _).put 0 _)
    · exact ((Only.refl (· = bx) w).drewN _).put (fun _ => rfl) _


theorem i64_bit (X : Nat) (h : X < 9223372036854775808) : bits .and .i64 (X : Int) 1 = ((X % 2 : Nat) : Int) := by
  show IntKind.i64.wrap ((BitVec.ofInt 64 (X : Int) &&& BitVec.ofInt 64 1).toNat : Int) = _
  have e1 : (BitVec.ofInt 64 (X : Int)).toNat = X := by simp [BitVec.toNat_ofInt]; omega
  rw [BitVec.toNat_and, e1, show (BitVec.ofInt 64 1).toNat = 1 from rfl, Nat.and_one_is_mod]
  simp [IntKind.wrap, IntKind.bits, IntKind.signed]
  omega
/-- the exponents on the way -/
theorem pow_next (a m : Int) (N k : Nat) (hk : k < 63) (hN : N < 9223372036854775808) :
    stepI (pm a (N / 2 ^ (63 - k)) m) a m (bits .and .i64 ((N : Int) / 2 ^ (62 - k)) 1) = pm a (N / 2 ^ (63 - (k + 1))) m := by
  have e0 : (N : Int) / 2 ^ (62 - k) = ((N / 2 ^ (62 - k) : Nat) : Int) := by simp
  have hle := Nat.div_le_self N (2 ^ (62 - k))
  have e1 : N / 2 ^ (63 - k) = N / 2 ^ (62 - k) / 2 := by rw [Nat.div_div_eq_div_mul, ← Nat.pow_succ]; congr 2; omega
  rw [e0, i64_bit _ (by omega), e1, show 63 - (k + 1) = 62 - k by omega]
  generalize N / 2 ^ (62 - k) = X at *
  unfold stepI
  rw [pm_even]
  by_cases h : X % 2 = 1
  · rw [if_pos (by omega), pm_odd]
    congr 1; omega
  · rw [if_neg (by omega)]
    congr 1; omega
theorem pow_start (a m : Int) (N : Nat) (hN : N < 9223372036854775808) : 1 % m = pm a (N / 2 ^ 63) m := by
  have : N / 2 ^ 63 = 0 := by omega
  rw [this]
  unfold pm
  rw [Int.pow_zero]

/-- package group's Pow -/
theorem pow_any (a n m : Int) (w : World) (hm : 1 ≤ m) (hm2 : m ≤ 9223372036854775807) (ha : I64 a) (hn : 0 ≤ n) (hn2 : n ≤ 9223372036854775807) :
    Calls Tryz.prog 32 #[.int .i64 a, .int .i64 n, .int .i64 m] w fun e w' => e = .returned (.int .i64 (pm a n.toNat m)) ∧ Only (fun _ => False) w w' := by
  obtain ⟨N, rfl⟩ := Int.eq_ofNat_of_zero_le hn
  rw [Int.toNat_natCast]
  go_enter Tryz.func32, Tryz.ntmps32
  go_wp2_with fail
  refine (residue_any 1 m _ hm hm2 (by omega) (by omega)).mono ?_
  rintro e w' ⟨rfl, rfl⟩
  go_wp2_with fail
  have b0 := At.new w 3 [.int .i64 a]
  have b1 := At.new (w.alloc (.cells #[.int .i64 a] 3)) 3 [.int .i64 m]
  have b2 := At.new ((w.alloc (.cells #[.int .i64 a] 3)).alloc (.cells #[.int .i64 m] 3)) 3 [.int .i64 (1 % m)]
  simp only [World.size_alloc] at b1 b2
  have B0 := Lib.hid ((b0.alloc (.cells #[.int .i64 m] 3)).alloc (.cells #[.int .i64 (1 % m)] 3))
  have B1 := Lib.hid (b1.alloc (.cells #[.int .i64 (1 % m)] 3))
  have B2 := Lib.hid b2
  have O0 := Lib.hid ((((Only.refl (fun _ => False) w).alloc (.cells #[.int .i64 a] 3)).alloc (.cells #[.int .i64 m] 3)).alloc (.cells #[.int .i64 (1 % m)] 3))
  clear b0 b1 b2
  go_loopw [19] (fun kv wr => ∃ k : Nat, k ≤ 63 ∧ kv = .int .i64 k ∧ At wr w.heap.size 3 [.int .i64 a] ∧ At wr (w.heap.size + 1) 3 [.int .i64 m] ∧ At wr (w.heap.size + 1 + 1) 3 [.int .i64 (pm a (N / 2 ^ (63 - k)) m)] ∧ Only (fun _ => False) w wr) (fun kv _ => 63 - (intOf kv).toNat)
  case atStart => exact ⟨0, by omega, rfl, B0.out, B1.out, by rw [Nat.sub_zero, ← pow_start a m N (by omega)]; exact B2.out, O0.out⟩
  case round =>
    clear B0 B1 B2 O0
    obtain ⟨k, hk, rfl, h0, h1, h2, ho⟩ := hrel
    by_cases hlt : k < 63
    · have bd := pm_bd a (N / 2 ^ (63 - k)) m hm
      have H0 := Lib.hid h0
      have H1 := Lib.hid h1
      have H2 := Lib.hid h2
      have HO := Lib.hid ho
      clear h0 h1 h2 ho
      go_wp2_with fail
      refine (step_any _ _ _ _ _ _ _ _ H2.out H1.out H0.out (by omega) (by omega) hm hm2 ha ⟨by omega, by omega⟩).mono ?_
      rw [pow_next a m N k hlt (by omega)]
      rintro e w2 ⟨rfl, g2, o2⟩
      have G0 := Lib.hid (H0.out.only o2 (by omega))
      have G1 := Lib.hid (H1.out.only o2 (by omega))
      have G2 := Lib.hid g2
      have GO := Lib.hid (HO.out.trans (o2.mono (T := fun i => w.heap.size ≤ i) (fun i _ h => by omega)) (fun i hi h => by omega))
      clear g2 o2
      go_wp2_with fail
      go_roundw
      case rel => exact ⟨k + 1, by omega, by go_num, G0.out, G1.out, G2.out, GO.out⟩
      case measure => simp [intOf]; omega
    · obtain rfl : k = 63 := by omega
      have c := h2.cell (i := 0) rfl
      have HO := Lib.hid ho
      clear h0 h1 h2 ho
      go_wp2_with fail
      go_ret
      exact ⟨ret_int (by simp), HO.out⟩

end Go.Proofs.YtoekhpnapnhefaaGreatDoor

namespace Go.Proofs.YtoekhpnapnhefaaGreatDoor
open Go.RowKit
set_option linter.unusedVariables false
set_option linter.unusedSimpArgs false

theorem rresidue_any (a m : Int) (w : World) (hm : 1 ≤ m) (hm2 : m ≤ 9223372036854775807) (ha : -9223372036854775808 ≤ a) (ha2 : a ≤ 9223372036854775807) :
    Calls Tryz.prog 51 #[.int .i64 a, .int .i64 m] w fun e w' => e = .returned (.int .i64 (a % m)) ∧ w = w' := by
  have hb0 : (m == 0) = false := by simp; omega
  have e0 := Int.emod_nonneg a (show m ≠ 0 by omega)
  have e1 := Int.emod_lt_of_pos a (show 0 < m by omega)
  by_cases h0 : 0 ≤ a
  · go_enter Tryz.func51, Tryz.ntmps51
    go_wp2
    go_ret
    exact ⟨rfl, rfl⟩
  · obtain ⟨h1, h2, h3, h4⟩ := tmod_neg a m hm (by omega)
    have H1 := Lib.hid h1
    have H2 := Lib.hid h2
    clear h1 h2
    by_cases hn : a.tmod m < 0
    · go_enter Tryz.func51, Tryz.ntmps51
      go_wp2
      go_ret
      exact ⟨ret_int (H1.out (by assumption)), rfl⟩
    · go_enter Tryz.func51, Tryz.ntmps51
      go_wp2
      go_ret
      exact ⟨ret_int (H2.out (by omega)), rfl⟩

theorem plus_any (a b m : Int) (w : World) (hm : 1 ≤ m) (hm2 : m ≤ 9223372036854775807) (ha : 0 ≤ a) (ha2 : a < m) (hb : 0 ≤ b) (hb2 : b < m) :
    Calls Tryz.prog 59 #[.int .i64 a, .int .i64 b, .int .i64 m] w fun e w' => e = .returned (.int .i64 ((a + b) % m)) ∧ w = w' := by
  by_cases h : m - b ≤ a
  · have e : (a + b) % m = a - (m - b) := by
      have : (a + b) % m = (a + b - m) % m := by rw [Int.sub_emod, Int.emod_self]; simp
      rw [this, Int.emod_eq_of_lt (by omega) (by omega)]; omega
    have HE := Lib.hid e
    clear e
    go_enter Tryz.func59, Tryz.ntmps59
    go_wp2
    go_ret
    exact ⟨ret_int HE.out.symm, rfl⟩
  · have e : (a + b) % m = a + b := Int.emod_eq_of_lt (by omega) (by omega)
    have HE := Lib.hid e
    clear e
    go_enter Tryz.func59, Tryz.ntmps59
    go_wp2
    go_ret
    exact ⟨ret_int HE.out.symm, rfl⟩

theorem radd_any (a b m : Int) (w : World) (hm : 1 ≤ m) (hm2 : m ≤ 9223372036854775807) (ha : I64 a) (hb : I64 b) :
    Calls Tryz.prog 75 #[.int .i64 a, .int .i64 b, .int .i64 m] w fun e w' => e = .returned (.int .i64 ((a + b) % m)) ∧ w = w' := by
  have a0 := Int.emod_nonneg a (show m ≠ 0 by omega)
  have a1 := Int.emod_lt_of_pos a (show 0 < m by omega)
  have b0 := Int.emod_nonneg b (show m ≠ 0 by omega)
  have b1 := Int.emod_lt_of_pos b (show 0 < m by omega)
  go_enter Tryz.func75, Tryz.ntmps75
  go_wp2_with fail
  refine (rresidue_any a m _ hm hm2 ha.1 ha.2).mono ?_
  rintro e w' ⟨rfl, rfl⟩
  go_wp2_with fail
  refine (rresidue_any b m _ hm hm2 hb.1 hb.2).mono ?_
  rintro e w' ⟨rfl, rfl⟩
  go_wp2_with fail
  refine (plus_any (a % m) (b % m) m _ hm hm2 a0 a1 b0 b1).mono ?_
  rintro e w' ⟨rfl, rfl⟩
  go_wp2_with fail
  go_ret
  exact ⟨rfl, rfl⟩

theorem dbl_step (x y out c m : Int) (h : (out + x * y) % m = c) (hy : 0 ≤ y) :
    (if y % 2 = 1 then ((out + x) % m + (x + x) % m * (y / 2)) % m else (out + (x + x) % m * (y / 2)) % m) = c := by
  have e : x * y = (x + x) * (y / 2) + x * (y % 2) := by
    have h1 := Int.mul_ediv_add_emod y 2
    rw [Int.add_mul, ← Int.mul_add]
    rw [← Int.mul_add]
    congr 1; omega
  rw [← h, e]
  by_cases h2 : y % 2 = 1
  · rw [if_pos h2, h2, Int.mul_one, Int.add_emod ((out + x) % m), Int.emod_emod, ← Int.add_emod, Int.add_emod, Int.mul_emod, Int.emod_emod, ← Int.mul_emod, ← Int.add_emod]
    congr 1; omega
  · have h3 : y % 2 = 0 := by omega
    rw [if_neg h2, h3, Int.mul_zero, Int.add_zero, Int.add_emod, Int.mul_emod, Int.emod_emod, ← Int.mul_emod, ← Int.add_emod]

theorem mul_bd (x y : Int) (hx : 0 ≤ x) (hx2 : x ≤ 2147483647) (hy : 0 ≤ y) (hy2 : y ≤ 2147483647) : 0 ≤ x * y ∧ x * y ≤ 4611686014132420609 := by
  refine ⟨Int.mul_nonneg hx hy, ?_⟩
  have : x * y ≤ 2147483647 * 2147483647 := Int.mul_le_mul hx2 hy2 hy (by omega)
  omega
def Dbl (out x y c m : Int) : Prop := (out + x * y) % m = c
theorem dbl_one {x y out c m : Int} (h : Dbl out x y c m) (hy : 0 ≤ y) (h1 : y % 2 = 1) : Dbl ((out + x) % m) ((x + x) % m) (y / 2) c m := by
  have := dbl_step x y out c m h hy; rw [if_pos h1] at this; exact this
theorem dbl_zero {x y out c m : Int} (h : Dbl out x y c m) (hy : 0 ≤ y) (h1 : y % 2 = 0) : Dbl out ((x + x) % m) (y / 2) c m := by
  have := dbl_step x y out c m h hy; rw [if_neg (by omega)] at this; exact this
theorem dbl_end {x out c m : Int} (h : Dbl out x 0 c m) (h0 : 0 ≤ out) (h1 : out < m) : out = c := by
  unfold Dbl at h
  rw [Int.mul_zero, Int.add_zero, Int.emod_eq_of_lt h0 h1] at h
  exact h

/-- the reference's Mul -/
theorem rmul_any (a b m : Int) (w : World) (hm : 1 ≤ m) (hm2 : m ≤ 9223372036854775807) (ha : I64 a) (hb : I64 b) :
    Calls Tryz.prog 19 #[.int .i64 a, .int .i64 b, .int .i64 m] w fun e w' => e = .returned (.int .i64 (a * b % m)) ∧ w = w' := by
  have HE := Int.mul_emod a b m
  have a0 := Int.emod_nonneg a (show m ≠ 0 by omega)
  have a1 := Int.emod_lt_of_pos a (show 0 < m by omega)
  have b0 := Int.emod_nonneg b (show m ≠ 0 by omega)
  have b1 := Int.emod_lt_of_pos b (show 0 < m by omega)
  generalize hx : a % m = x at *
  generalize hy : b % m = y at *
  generalize hc : a * b % m = c at *
  have HX := Lib.hid hx
  have HY := Lib.hid hy
  have HF := Lib.hid HE
  clear hx hy hc HE
  have hb0 : (m == 0) = false := by simp; omega
  by_cases h1 : x < 2147483648 ∧ y < 2147483648
  · obtain ⟨k1, k2⟩ := h1
    obtain ⟨k3, k4⟩ := mul_bd x y a0 (by omega) b0 (by omega)
    go_enter Tryz.func19, Tryz.ntmps19
    go_wp2_with fail
    refine (rresidue_any a m _ hm hm2 ha.1 ha.2).mono ?_
    rw [HX.out]
    rintro e w' ⟨rfl, rfl⟩
    go_wp2_with fail
    refine (rresidue_any b m _ hm hm2 hb.1 hb.2).mono ?_
    rw [HY.out]
    rintro e w' ⟨rfl, rfl⟩
    go_wp2_with fail
    go_ret
    exact ⟨ret_int HF.out.symm, rfl⟩
  · have HD := Lib.hid (show Dbl 0 x y c m by unfold Dbl; rw [Int.zero_add]; exact HF.out.symm)
    have alt : (x < 2147483648 ∧ ¬ y < 2147483648) ∨ ¬ x < 2147483648 := by
      by_cases h3 : x < 2147483648
      · exact .inl ⟨h3, fun h4 => h1 ⟨h3, h4⟩⟩
      · exact .inr h3
    clear h1
    rcases alt with ⟨k1, k2⟩ | k1
    all_goals
      go_enter Tryz.func19, Tryz.ntmps19
      go_wp2_with fail
      refine (rresidue_any a m _ hm hm2 ha.1 ha.2).mono ?_
      rw [HX.out]
      rintro e w' ⟨rfl, rfl⟩
      go_wp2_with fail
      refine (rresidue_any b m _ hm hm2 hb.1 hb.2).mono ?_
      rw [HY.out]
      rintro e w' ⟨rfl, rfl⟩
      go_wp2_with fail
      go_loop [7, 8, 9] (fun xv yv ov => ∃ x y out : Int, xv = .int .i64 x ∧ yv = .int .i64 y ∧ ov = .int .i64 out ∧ 0 ≤ x ∧ x < m ∧ 0 ≤ y ∧ y < m ∧ 0 ≤ out ∧ out < m ∧ Hid (Dbl out x y c m)) (fun _ yv _ => (intOf yv).toNat)
      case atStart => exact ⟨x, y, 0, rfl, rfl, rfl, a0, a1, b0, b1, by omega, by omega, HD⟩
      case round =>
        obtain ⟨x2, y2, o2, rfl, rfl, rfl, g1, g2, g3, g4, g5, g6, hd⟩ := hrel
        have s0 := Int.emod_nonneg (x2 + x2) (show m ≠ 0 by omega)
        have s1 := Int.emod_lt_of_pos (x2 + x2) (show 0 < m by omega)
        have t0 := Int.emod_nonneg (o2 + x2) (show m ≠ 0 by omega)
        have t1 := Int.emod_lt_of_pos (o2 + x2) (show 0 < m by omega)
        by_cases hy0 : 0 < y2
        · by_cases hodd : y2 % 2 = 1
          · have hodd' : (y2 % 2 == 1) = true := by simp [hodd]
            have HN := Lib.hid (dbl_one hd.out g3 hodd)
            clear hodd
            go_wp2_with fail
            refine (plus_any o2 x2 m _ hm hm2 g5 g6 g1 g2).mono ?_
            rintro e w' ⟨rfl, rfl⟩
            go_wp2_with fail
            refine (plus_any x2 x2 m _ hm hm2 g1 g2 g1 g2).mono ?_
            rintro e w' ⟨rfl, rfl⟩
            go_wp2_with fail
            go_round
            case rel => exact ⟨_, _, _, rfl, rfl, rfl, s0, s1, by omega, by omega, t0, t1, HN⟩
            case measure => simp [intOf]; omega
          · have hodd' : (y2 % 2 == 1) = false := by simp [hodd]
            have HN := Lib.hid (dbl_zero hd.out g3 (by omega))
            clear hodd
            go_wp2_with fail
            refine (plus_any x2 x2 m _ hm hm2 g1 g2 g1 g2).mono ?_
            rintro e w' ⟨rfl, rfl⟩
            go_wp2_with fail
            go_round
            case rel => exact ⟨_, _, _, rfl, rfl, rfl, s0, s1, by omega, by omega, g5, g6, HN⟩
            case measure => simp [intOf]; omega
        · obtain rfl : y2 = 0 := by omega
          have HN := Lib.hid (dbl_end hd.out g5 g6)
          go_wp2_with fail
          go_ret
          exact ⟨ret_int HN.out, rfl⟩

theorem ipow_emod (a m : Int) : ∀ n : Nat, (a % m) ^ n % m = a ^ n % m
  | 0 => by rw [Int.pow_zero, Int.pow_zero]
  | n + 1 => by rw [Int.pow_succ, Int.pow_succ, Int.mul_emod, ipow_emod a m n, Int.emod_emod, ← Int.mul_emod]
/-- a step of the reference's Pow -/
def Pw (out x : Int) (n : Nat) (c m : Int) : Prop := out * x ^ n % m = c
theorem pw_one {out x c m : Int} {n : Nat} (h : Pw out x n c m) (h1 : n % 2 = 1) : Pw (out * x % m) (x * x % m) (n / 2) c m := by
  unfold Pw at *
  have e : x ^ n = x * (x * x) ^ (n / 2) := by
    have e2 : (x * x) ^ (n / 2) = x ^ (2 * (n / 2)) := by rw [Int.pow_mul, Int.pow_succ, Int.pow_succ, Int.pow_zero, Int.one_mul]
    rw [e2, ← Int.pow_succ']
    congr 1; omega
  rw [← h, e, Int.mul_emod, Int.emod_emod, ipow_emod, ← Int.mul_emod, Int.mul_assoc]
theorem pw_zero {out x c m : Int} {n : Nat} (h : Pw out x n c m) (h1 : n % 2 = 0) : Pw out (x * x % m) (n / 2) c m := by
  unfold Pw at *
  have e : x ^ n = (x * x) ^ (n / 2) := by
    have e2 : (x * x) ^ (n / 2) = x ^ (2 * (n / 2)) := by rw [Int.pow_mul, Int.pow_succ, Int.pow_succ, Int.pow_zero, Int.one_mul]
    rw [e2]
    congr 1; omega
  rw [← h, e, Int.mul_emod, ipow_emod, ← Int.mul_emod]
theorem pw_end {out x c m : Int} (h : Pw out x 0 c m) (h0 : 0 ≤ out) (h1 : out < m) : out = c := by
  unfold Pw at h
  rw [Int.pow_zero, Int.mul_one, Int.emod_eq_of_lt h0 h1] at h
  exact h
theorem pw_start (a m : Int) (n : Nat) : Pw (1 % m) (a % m) n (pm a n m) m := by
  unfold Pw pm
  rw [Int.mul_emod, Int.emod_emod, ipow_emod, ← Int.mul_emod, Int.one_mul]

/-- the reference's Pow -/
theorem rpow_any (a n m : Int) (w : World) (hm : 1 ≤ m) (hm2 : m ≤ 9223372036854775807) (ha : I64 a) (hn : 0 ≤ n) (hn2 : n ≤ 9223372036854775807) :
    Calls Tryz.prog 48 #[.int .i64 a, .int .i64 n, .int .i64 m] w fun e w' => e = .returned (.int .i64 (pm a n.toNat m)) ∧ w = w' := by
  obtain ⟨N, rfl⟩ := Int.eq_ofNat_of_zero_le hn
  rw [Int.toNat_natCast]
  have HS := Lib.hid (pw_start a m N)
  have a0 := Int.emod_nonneg a (show m ≠ 0 by omega)
  have a1 := Int.emod_lt_of_pos a (show 0 < m by omega)
  have o0 := Int.emod_nonneg 1 (show m ≠ 0 by omega)
  have o1 := Int.emod_lt_of_pos 1 (show 0 < m by omega)
  generalize pm a N m = c at *
  go_enter Tryz.func48, Tryz.ntmps48
  go_wp2_with fail
  refine (rresidue_any 1 m _ hm hm2 (by omega) (by omega)).mono ?_
  rintro e w' ⟨rfl, rfl⟩
  go_wp2_with fail
  refine (rresidue_any a m _ hm hm2 ha.1 ha.2).mono ?_
  rintro e w' ⟨rfl, rfl⟩
  go_wp2_with fail
  go_loop [1, 7, 8] (fun nv ov xv => ∃ (n : Nat) (out x : Int), nv = .int .i64 n ∧ ov = .int .i64 out ∧ xv = .int .i64 x ∧ (n : Int) ≤ 9223372036854775807 ∧ 0 ≤ out ∧ out < m ∧ 0 ≤ x ∧ x < m ∧ Hid (Pw out x n c m)) (fun nv _ _ => (intOf nv).toNat)
  case atStart => exact ⟨N, _, _, rfl, rfl, rfl, hn2, o0, o1, a0, a1, HS⟩
  case round =>
    obtain ⟨k, o2, x2, rfl, rfl, rfl, g0, g1, g2, g3, g4, hd⟩ := hrel
    have s0 := Int.emod_nonneg (x2 * x2) (show m ≠ 0 by omega)
    have s1 := Int.emod_lt_of_pos (x2 * x2) (show 0 < m by omega)
    have t0 := Int.emod_nonneg (o2 * x2) (show m ≠ 0 by omega)
    have t1 := Int.emod_lt_of_pos (o2 * x2) (show 0 < m by omega)
    by_cases hk : 0 < k
    · by_cases hodd : k % 2 = 1
      · have hodd' : ((k : Int) % 2 == 1) = true := by simp; omega
        have HN := Lib.hid (pw_one hd.out hodd)
        clear hodd
        go_wp2_with fail
        refine (rmul_any o2 x2 m _ hm hm2 ⟨by omega, by omega⟩ ⟨by omega, by omega⟩).mono ?_
        rintro e w' ⟨rfl, rfl⟩
        go_wp2_with fail
        refine (rmul_any x2 x2 m _ hm hm2 ⟨by omega, by omega⟩ ⟨by omega, by omega⟩).mono ?_
        rintro e w' ⟨rfl, rfl⟩
        go_wp2_with fail
        go_round
        case rel => exact ⟨k / 2, _, _, by simp, rfl, rfl, by omega, t0, t1, s0, s1, HN⟩
        case measure => simp [intOf]; omega
      · have hodd' : ((k : Int) % 2 == 1) = false := by simp; omega
        have HN := Lib.hid (pw_zero hd.out (by omega))
        clear hodd
        go_wp2_with fail
        refine (rmul_any x2 x2 m _ hm hm2 ⟨by omega, by omega⟩ ⟨by omega, by omega⟩).mono ?_
        rintro e w' ⟨rfl, rfl⟩
        go_wp2_with fail
        go_round
        case rel => exact ⟨k / 2, _, _, by simp, rfl, rfl, by omega, g1, g2, s0, s1, HN⟩
        case measure => simp [intOf]; omega
    · obtain rfl : k = 0 := by omega
      have HN := Lib.hid (pw_end hd.out g1 g2)
      go_wp2_with fail
      go_ret
      exact ⟨ret_int HN.out, rfl⟩
end Go.Proofs.YtoekhpnapnhefaaGreatDoor

namespace Go.Proofs.YtoekhpnapnhefaaGreatDoor
open Go.RowKit
set_option linter.unusedVariables false
set_option linter.unusedSimpArgs false

/-- a number is a member of the group, as a test -/
def memB (a : Int) : Bool := decide (1 ≤ a ∧ a < 2305843009213691579 ∧ pm a 1152921504606845789 2305843009213691579 = 1)

theorem member_any (a : Int) (w : World) (ha : I64 a) :
    Calls Tryz.prog 57 #[.int .i64 a] w fun e w' => e = .returned (.bool (memB a)) ∧ Only (fun _ => False) w w' := by
  have hp := pow_any a 1152921504606845789 2305843009213691579
  rw [show (1152921504606845789 : Int).toNat = 1152921504606845789 from rfl] at hp
  by_cases h1 : 1 ≤ a
  · by_cases h2 : a < 2305843009213691579
    · have hm : memB a = (pm a 1152921504606845789 2305843009213691579 == 1) := by
        unfold memB
        rw [decide_eq_decide.2 (show _ ↔ pm a 1152921504606845789 2305843009213691579 = 1 from ⟨fun h => h.2.2, fun h => ⟨h1, h2, h⟩⟩)]
        rfl
      have HM := Lib.hid hm
      have HP := Lib.hid hp
      clear hm hp
      generalize pm a 1152921504606845789 2305843009213691579 = c at *
      go_enter Tryz.func57, Tryz.ntmps57
      go_wp2_with fail
      refine (HP.out _ (by omega) (by omega) ha (by omega) (by omega)).mono ?_
      rintro e w' ⟨rfl, ho⟩
      go_wp2_with fail
      go_ret
      exact ⟨by rw [HM.out]; rfl, ho⟩
    · have hm : memB a = false := by unfold memB; rw [decide_eq_false]; exact fun h => h2 h.2.1
      have HM := Lib.hid hm
      clear hm hp
      go_enter Tryz.func57, Tryz.ntmps57
      go_wp2_with fail
      go_ret
      exact ⟨by rw [HM.out]; rfl, Only.refl _ _⟩
  · have hm : memB a = false := by unfold memB; rw [decide_eq_false]; exact fun h => h1 h.1
    have HM := Lib.hid hm
    clear hm hp
    go_enter Tryz.func57, Tryz.ntmps57
    go_wp2_with fail
    go_ret
    exact ⟨by rw [HM.out]; rfl, Only.refl _ _⟩
theorem rmember_any (a : Int) (w : World) (ha : I64 a) :
    Calls Tryz.prog 60 #[.int .i64 a] w fun e w' => e = .returned (.bool (memB a)) ∧ w = w' := by
  have hp := rpow_any a 1152921504606845789 2305843009213691579
  rw [show (1152921504606845789 : Int).toNat = 1152921504606845789 from rfl] at hp
  by_cases h1 : 1 ≤ a
  · by_cases h2 : a < 2305843009213691579
    · have hm : memB a = (pm a 1152921504606845789 2305843009213691579 == 1) := by
        unfold memB
        rw [decide_eq_decide.2 (show _ ↔ pm a 1152921504606845789 2305843009213691579 = 1 from ⟨fun h => h.2.2, fun h => ⟨h1, h2, h⟩⟩)]
        rfl
      have HM := Lib.hid hm
      have HP := Lib.hid hp
      clear hm hp
      generalize pm a 1152921504606845789 2305843009213691579 = c at *
      go_enter Tryz.func60, Tryz.ntmps60
      go_wp2_with fail
      refine (HP.out _ (by omega) (by omega) ha (by omega) (by omega)).mono ?_
      rintro e w' ⟨rfl, rfl⟩
      go_wp2_with fail
      go_ret
      exact ⟨by rw [HM.out]; rfl, rfl⟩
    · have hm : memB a = false := by unfold memB; rw [decide_eq_false]; exact fun h => h2 h.2.1
      have HM := Lib.hid hm
      clear hm hp
      go_enter Tryz.func60, Tryz.ntmps60
      go_wp2_with fail
      go_ret
      exact ⟨by rw [HM.out]; rfl, rfl⟩
  · have hm : memB a = false := by unfold memB; rw [decide_eq_false]; exact fun h => h1 h.1
    have HM := Lib.hid hm
    clear hm hp
    go_enter Tryz.func60, Tryz.ntmps60
    go_wp2_with fail
    go_ret
    exact ⟨by rw [HM.out]; rfl, rfl⟩

theorem pm_nat (A n M : Nat) : pm (A : Int) n (M : Int) = ((A ^ n % M : Nat) : Int) := by unfold pm; simp
theorem P_int : (2305843009213691579 : Int) = ((gP : Nat) : Int) := rfl
theorem Q_int : (1152921504606845789 : Int) = ((gQ : Nat) : Int) := rfl
theorem memB_iff (a : Int) : memB a = true ↔ ∃ A : Nat, a = (A : Int) ∧ Mem A := by
  unfold memB
  rw [decide_eq_true_iff, show (1152921504606845789 : Nat) = gQ from rfl, P_int]
  constructor
  · rintro ⟨h1, h2, h3⟩
    obtain ⟨A, rfl⟩ := Int.eq_ofNat_of_zero_le (show 0 ≤ a by omega)
    rw [pm_nat] at h3
    exact ⟨A, rfl, by omega, by omega, by omega⟩
  · rintro ⟨A, rfl, h1, h2, h3⟩
    rw [pm_nat, h3]
    exact ⟨by omega, by omega, rfl⟩
theorem memB_nat {A : Nat} (h : Mem A) : memB (A : Int) = true := (memB_iff _).2 ⟨A, rfl, h⟩
theorem memB_not {a : Int} (h : ∀ A : Nat, a = (A : Int) → ¬ Mem A) : memB a = false := by
  cases hb : memB a
  · rfl
  · obtain ⟨A, h1, h2⟩ := (memB_iff a).1 hb
    exact absurd h2 (h A h1)
end Go.Proofs.YtoekhpnapnhefaaGreatDoor
