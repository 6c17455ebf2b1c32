/-
  math/bits' Div64: the walk.
-/
import Derived.Test.YtjmdfipofgmakaaDoorGa
import Derived.Test.YtjmdfipofgmakaaDoorDv
import Derived.Test.YtjmdfipofgmakaaDoorShelf
namespace Go.Proofs.YtjmdfipofgmakaaDoor
open Go.RowKit
set_option linter.unusedVariables false
set_option linter.unusedSimpArgs false
theorem lz_any (y s : Nat) (w : World) (hy : y < 18446744073709551616) (hs : 64 - Lib.bitLen y = s) (hb : Lib.bitLen y ≤ 64) :
    Calls Tryd.prog 117 #[.int .u64 y] w fun e w' => e = .returned (.int .i64 (s : Int)) ∧ w = w' := by
  refine (Tryd.bits_LeadingZeros64 (y : Int) w (by omega) (by omega)).mono ?_
  rintro e w' ⟨rfl, rfl⟩
  exact ⟨ret_int (by rw [Int.toNat_natCast]; omega), rfl⟩

theorem div_round (B y1 y0 u u1 q r : Nat) (h : Dig B y1 y0 u u1 q r) (hy1 : 0 < y1) (hy0 : y0 < B) (hu : u < y1 * B + y0) (hu1 : u1 < B) (hr : r < B) :
    (B ≤ q ∨ r * B + u1 < q * y0 → 0 < q ∧ Dig B y1 y0 u u1 (q - 1) (r + y1) ∧ (B ≤ r + y1 → q - 1 = (u * B + u1) / (y1 * B + y0) ∧ q - 1 < B)) ∧
    (¬ (B ≤ q ∨ r * B + u1 < q * y0) → q = (u * B + u1) / (y1 * B + y0) ∧ q < B) := by
  have hpos : 0 < y1 * B + y0 := by
    have : 0 < y1 * B := Nat.mul_pos hy1 (by omega)
    omega
  refine ⟨fun ht => ?_, fun ht => ?_⟩
  · obtain ⟨h1, h2⟩ := dig_step h hu hu1 ht
    refine ⟨h1, h2, fun hb => ?_⟩
    exact ⟨dig_end h2 hpos (dig_stop h2 hy0 hu hb), dig_lt h2 hy0 hu hb⟩
  · exact ⟨dig_end h hpos (by omega), by omega⟩

def IsD (y1 y0 u u1 D : Nat) : Prop := (u * 4294967296 + u1) / (y1 * 4294967296 + y0) = D
def IsU (y1 y0 u : Nat) : Prop := u < y1 * 4294967296 + y0
theorem div_five (y1 y0 u u1 D q r : Nat) (h : Dig 4294967296 y1 y0 u u1 q r) (hD : IsD y1 y0 u u1 D) (hy1 : 0 < y1) (hy1' : y1 < 4294967296) (hy0 : y0 < 4294967296) (hu : IsU y1 y0 u) (hu1 : u1 < 4294967296) (hr : r < 4294967296) (hq : q < 18446744073709551616) :
    ((4294967296 : Int) ≤ (q : Int) ∧ (q : Int) ≤ 18446744073709551615 ∧ (4294967296 : Int) ≤ (r : Int) + (y1 : Int) ∧ (q : Int) - 1 = (D : Int)) ∨
    ((¬ (4294967296 : Int) ≤ (q : Int) ∧ (4294967296 : Int) * (r : Int) + (u1 : Int) < (q : Int) * (y0 : Int) ∧ (q : Int) * (y0 : Int) ≤ 18446744073709551615 ∧ 0 ≤ (q : Int) * (y0 : Int) ∧ 0 < (q : Int)) ∧ (4294967296 : Int) ≤ (r : Int) + (y1 : Int) ∧ (q : Int) - 1 = (D : Int)) ∨
    (¬ (4294967296 : Int) ≤ (q : Int) ∧ ¬ (4294967296 : Int) * (r : Int) + (u1 : Int) < (q : Int) * (y0 : Int) ∧ (q : Int) * (y0 : Int) ≤ 18446744073709551615 ∧ 0 ≤ (q : Int) * (y0 : Int) ∧ q = D) ∨
    ((4294967296 : Int) ≤ (q : Int) ∧ (q : Int) ≤ 18446744073709551615 ∧ ¬ (4294967296 : Int) ≤ (r : Int) + (y1 : Int) ∧ Dig 4294967296 y1 y0 u u1 (q - 1) (r + y1)) ∨
    ((¬ (4294967296 : Int) ≤ (q : Int) ∧ (4294967296 : Int) * (r : Int) + (u1 : Int) < (q : Int) * (y0 : Int) ∧ (q : Int) * (y0 : Int) ≤ 18446744073709551615 ∧ 0 ≤ (q : Int) * (y0 : Int) ∧ 0 < (q : Int)) ∧ ¬ (4294967296 : Int) ≤ (r : Int) + (y1 : Int) ∧ Dig 4294967296 y1 y0 u u1 (q - 1) (r + y1)) := by
  unfold IsD at hD
  unfold IsU at hu
  subst hD
  generalize hB : (4294967296 : Nat) = B at *
  have hBi : (4294967296 : Int) = (B : Int) := by omega
  rw [hBi]
  obtain ⟨rd1, rd2⟩ := div_round B y1 y0 u u1 q r h hy1 hy0 hu hu1 hr
  have hm : ((q * y0 : Nat) : Int) = (q : Int) * (y0 : Int) := by simp
  have hm2 : ((r * B : Nat) : Int) = (B : Int) * (r : Int) := by rw [Int.natCast_mul, Int.mul_comm]
  rw [← hm, ← hm2]
  by_cases h1 : B ≤ q
  · obtain ⟨a1, a2, a3⟩ := rd1 (.inl h1)
    by_cases h2 : B ≤ r + y1
    · have := (a3 h2).1
      exact .inl ⟨by omega, by omega, by omega, by rw [← this]; omega⟩
    · exact .inr (.inr (.inr (.inl ⟨by omega, by omega, by omega, a2⟩)))
  · have hqy : q * y0 ≤ B * B := Nat.mul_le_mul (by omega) (by omega)
    have hqy2 : q * y0 ≤ 18446744073709551615 := by
      have : q * y0 ≤ 4294967295 * 4294967295 := Nat.mul_le_mul (by omega) (by omega)
      omega
    by_cases h2 : r * B + u1 < q * y0
    · have hq0 : 0 < q := by
        rcases Nat.eq_zero_or_pos q with h | h
        · subst h; simp at h2
        · exact h
      obtain ⟨a1, a2, a3⟩ := rd1 (.inr h2)
      by_cases h3 : B ≤ r + y1
      · have := (a3 h3).1
        exact .inr (.inl ⟨⟨by omega, by omega, by omega, by omega, by omega⟩, by omega, by rw [← this]; omega⟩)
      · exact .inr (.inr (.inr (.inr ⟨⟨by omega, by omega, by omega, by omega, by omega⟩, by omega, a2⟩)))
    · exact .inr (.inr (.inl ⟨by omega, by omega, by omega, by omega, (rd2 (by omega)).1⟩))

set_option maxRecDepth 100000 in
set_option maxHeartbeats 4000000 in
theorem div64_core (hi lo y s Y y1 y0 hs' u L u1 u0 q r D r1 q0 r0 D0 z : Nat) (w : World) (iy : (y : Int) ≤ 18446744073709551615) (il : (lo : Int) ≤ 18446744073709551615) (hh : hi < y) (h0 : 0 < hi) (hs : s ≤ 63) (H : Hid (64 - Lib.bitLen y = s)) (hb : Lib.bitLen y ≤ 64)
    (E1 : IntKind.u64.wrap ((y : Int) * 2 ^ s) = (Y : Int)) (E2 : (Y : Int) / 4294967296 = (y1 : Int)) (E3 : bits BinOp.and IntKind.u64 (Y : Int) 4294967295 = (y0 : Int))
    (E4 : IntKind.u64.wrap ((hi : Int) * 2 ^ s) = (hs' : Int)) (E4' : bits BinOp.or IntKind.u64 (hs' : Int) ((lo : Int) / 2 ^ (64 - s)) = (u : Int)) (E5 : IntKind.u64.wrap ((lo : Int) * 2 ^ s) = (L : Int)) (E6 : (L : Int) / 4294967296 = (u1 : Int)) (E7 : bits BinOp.and IntKind.u64 (L : Int) 4294967295 = (u0 : Int))
    (E8 : (u : Int) / (y1 : Int) = (q : Int)) (E9 : IntKind.u64.wrap ((u : Int) - IntKind.u64.wrap ((q : Int) * (y1 : Int))) = (r : Int))
    (E10 : IntKind.u64.wrap (IntKind.u64.wrap (IntKind.u64.wrap ((u : Int) * 4294967296) + (u1 : Int)) - IntKind.u64.wrap ((D : Int) * (Y : Int))) = (r1 : Int)) (E11 : IntKind.u64.wrap ((r1 : Int).tdiv (y1 : Int)) = (q0 : Int)) (E12 : IntKind.u64.wrap ((r1 : Int) - IntKind.u64.wrap ((q0 : Int) * (y1 : Int))) = (r0 : Int))
    (E13 : IntKind.u64.wrap (IntKind.u64.wrap (IntKind.u64.wrap ((r1 : Int) * 4294967296) + (u0 : Int)) - IntKind.u64.wrap ((D0 : Int) * (Y : Int))) = (z : Int))
    (b1 : 0 < y1) (b2 : (y1 : Int) ≤ 4294967295) (b3 : (y0 : Int) ≤ 4294967295) (b4 : (u1 : Int) ≤ 4294967295) (b5 : (u0 : Int) ≤ 4294967295) (b6 : (u : Int) ≤ 18446744073709551615) (b7 : (Y : Int) ≤ 18446744073709551615) (b8 : (D : Int) ≤ 4294967295) (b9 : (D0 : Int) ≤ 4294967295) (b10 : (r1 : Int) ≤ 18446744073709551615)
    (ihq : (q : Int) ≤ 18446744073709551615) (ihr : (r : Int) ≤ 4294967295) (dgq : Hid (Dig 4294967296 y1 y0 u u1 q r)) (huu : IsU y1 y0 u) (hD : IsD y1 y0 u u1 D)
    (ihq0 : (q0 : Int) ≤ 18446744073709551615) (ihr0 : (r0 : Int) ≤ 4294967295) (dgq0 : Hid (Dig 4294967296 y1 y0 r1 u0 q0 r0)) (hur1 : IsU y1 y0 r1) (hD0 : IsD y1 y0 r1 u0 D0) :
    Calls Tryd.prog 97 #[.int .u64 hi, .int .u64 lo, .int .u64 y] w fun e w' => e = .returned (.tuple #[.int .u64 ((D : Int) * 4294967296 + (D0 : Int)), .int .u64 ((z : Int) / 2 ^ s)]) ∧ w = w' := by
  have g0 : ((hi : Int) == 0) = false := by simp; omega
  have g1 : ((y : Int) == 0) = false := by simp; omega
  have G10 := Lib.hid E10
  have G11 := Lib.hid E11
  have G12 := Lib.hid E12
  have G13 := Lib.hid E13
  clear E10 E11 E12 E13
  go_enter Tryd.func97, Tryd.ntmps97
  go_wp2_with fail
  refine (lz_any y s w (by omega) H.out hb).mono ?_
  rintro e w' ⟨rfl, rfl⟩
  go_wp2_with fail
  clear E1 E2 E3 E4 E4' E5 E6 E7 E8 E9
  go_loop [15, 16] (fun qv rv => ∃ a b : Nat, qv = .int .u64 a ∧ rv = .int .u64 b ∧ (a : Int) ≤ 18446744073709551615 ∧ (b : Int) ≤ 4294967295 ∧ Hid (Dig 4294967296 y1 y0 u u1 a b)) (fun qv _ => (intOf qv).toNat)
  case atStart => exact ⟨q, r, rfl, rfl, ihq, ihr, dgq⟩
  case round =>
    clear dgq ihq ihr
    obtain ⟨a, b, rfl, rfl, ha, hb2, dg⟩ := hrel
    have F := div_five y1 y0 u u1 D a b dg.out hD b1 (by omega) (by omega) huu (by omega) (by omega) (by omega)
    rcases F with ⟨f1, f2, f3, f4⟩ | ⟨⟨f1, f2, f5, f6, f7⟩, f3, f4⟩ | ⟨f1, f2, f3, f4, rfl⟩ | ⟨f1, f2, f3, f4⟩ | ⟨⟨f1, f2, f5, f6, f7⟩, f3, f4⟩
    rotate_left 3
    iterate 2
      have f4' := Lib.hid f4
      clear f4
      go_wp2_with fail
      go_round
      case rel => exact ⟨a - 1, b + y1, by congr 1; omega, by congr 1, by omega, by omega, f4'⟩
      case measure => simp [intOf]; omega
    all_goals
      clear dg hD
      have E10 := G10.out
      have E11 := G11.out
      have E12 := G12.out
      clear G10 G11 G12
      go_wp2_with fail
      rw [E10, E11, E12]
      clear E10 E11 E12 f1 f2 f3 f4
      go_loop [18, 16] (fun qv rv => ∃ a b : Nat, qv = .int .u64 a ∧ rv = .int .u64 b ∧ (a : Int) ≤ 18446744073709551615 ∧ (b : Int) ≤ 4294967295 ∧ Hid (Dig 4294967296 y1 y0 r1 u0 a b)) (fun qv _ => (intOf qv).toNat)
      case atStart => exact ⟨q0, r0, rfl, rfl, ihq0, ihr0, dgq0⟩
      case round =>
        clear dgq0 ihq0 ihr0
        obtain ⟨a, b, rfl, rfl, ha, hb2, dg⟩ := hrel
        have F := div_five y1 y0 r1 u0 D0 a b dg.out hD0 b1 (by omega) (by omega) hur1 (by omega) (by omega) (by omega)
        rcases F with ⟨f1, f2, f3, f4⟩ | ⟨⟨f1, f2, f5, f6, f7⟩, f3, f4⟩ | ⟨f1, f2, f3, f4, rfl⟩ | ⟨f1, f2, f3, f4⟩ | ⟨⟨f1, f2, f5, f6, f7⟩, f3, f4⟩
        rotate_left 3
        iterate 2
          have f4' := Lib.hid f4
          clear f4
          go_wp2_with fail
          go_round
          case rel => exact ⟨a - 1, b + y1, by congr 1; omega, by congr 1, by omega, by omega, f4'⟩
          case measure => simp [intOf]; omega
        all_goals
          clear dg hD0
          have E13 := G13.out
          clear G13
          go_wp2_with fail
          rw [E13]
          go_ret2
          exact ⟨rfl, rfl⟩
end Go.Proofs.YtjmdfipofgmakaaDoor
