/-
  The reference of layer 4: Residue, plus, Add, Sub, Mul, Pow: contracts.
-/
import Derived.Test.YtjmdfipofgmakaaDoorGc
namespace Go.Proofs.YtjmdfipofgmakaaDoor
open Go.RowKit
set_option linter.unusedVariables false
set_option linter.unusedSimpArgs false

theorem rresidue_any (a m : Int) (w : World) (hm : 1 ≤ m) (hm2 : m ≤ 9223372036854775807) (ha : -9223372036854775808 ≤ a) (ha2 : a ≤ 9223372036854775807) :
    Calls Tryd.prog 27 #[.int .i64 a, .int .i64 m] w fun e w' => e = .returned (.int .i64 (a % m)) ∧ w = w' := by
  have hb0 : (m == 0) = false := by simp; omega
  have e0 := Int.emod_nonneg a (show m ≠ 0 by omega)
  have e1 := Int.emod_lt_of_pos a (show 0 < m by omega)
  by_cases h0 : 0 ≤ a
  · go_enter Tryd.func27, Tryd.ntmps27
    go_wp2
    go_ret
    exact ⟨rfl, rfl⟩
  · obtain ⟨h1, h2, h3, h4⟩ := tmod_neg a m hm (by omega)
    have H1 := Lib.hid h1
    have H2 := Lib.hid h2
    clear h1 h2
    by_cases hn : a.tmod m < 0
    · go_enter Tryd.func27, Tryd.ntmps27
      go_wp2
      go_ret
      exact ⟨ret_int (H1.out (by assumption)), rfl⟩
    · go_enter Tryd.func27, Tryd.ntmps27
      go_wp2
      go_ret
      exact ⟨ret_int (H2.out (by omega)), rfl⟩

theorem plus_any (a b m : Int) (w : World) (hm : 1 ≤ m) (hm2 : m ≤ 9223372036854775807) (ha : 0 ≤ a) (ha2 : a < m) (hb : 0 ≤ b) (hb2 : b < m) :
    Calls Tryd.prog 70 #[.int .i64 a, .int .i64 b, .int .i64 m] w fun e w' => e = .returned (.int .i64 ((a + b) % m)) ∧ w = w' := by
  by_cases h : m - b ≤ a
  · have e : (a + b) % m = a - (m - b) := by
      have : (a + b) % m = (a + b - m) % m := by rw [Int.sub_emod, Int.emod_self]; simp
      rw [this, Int.emod_eq_of_lt (by omega) (by omega)]; omega
    have HE := Lib.hid e
    clear e
    go_enter Tryd.func70, Tryd.ntmps70
    go_wp2
    go_ret
    exact ⟨ret_int HE.out.symm, rfl⟩
  · have e : (a + b) % m = a + b := Int.emod_eq_of_lt (by omega) (by omega)
    have HE := Lib.hid e
    clear e
    go_enter Tryd.func70, Tryd.ntmps70
    go_wp2
    go_ret
    exact ⟨ret_int HE.out.symm, rfl⟩

theorem radd_any (a b m : Int) (w : World) (hm : 1 ≤ m) (hm2 : m ≤ 9223372036854775807) (ha : I64 a) (hb : I64 b) :
    Calls Tryd.prog 25 #[.int .i64 a, .int .i64 b, .int .i64 m] w fun e w' => e = .returned (.int .i64 ((a + b) % m)) ∧ w = w' := by
  have a0 := Int.emod_nonneg a (show m ≠ 0 by omega)
  have a1 := Int.emod_lt_of_pos a (show 0 < m by omega)
  have b0 := Int.emod_nonneg b (show m ≠ 0 by omega)
  have b1 := Int.emod_lt_of_pos b (show 0 < m by omega)
  go_enter Tryd.func25, Tryd.ntmps25
  go_wp2_with fail
  refine (rresidue_any a m _ hm hm2 ha.1 ha.2).mono ?_
  rintro e w' ⟨rfl, rfl⟩
  go_wp2_with fail
  refine (rresidue_any b m _ hm hm2 hb.1 hb.2).mono ?_
  rintro e w' ⟨rfl, rfl⟩
  go_wp2_with fail
  refine (plus_any (a % m) (b % m) m _ hm hm2 a0 a1 b0 b1).mono ?_
  rintro e w' ⟨rfl, rfl⟩
  go_wp2_with fail
  go_ret
  exact ⟨rfl, rfl⟩

theorem rsub_any (a b m : Int) (w : World) (hm : 1 ≤ m) (hm2 : m ≤ 9223372036854775807) (ha : I64 a) (hb : I64 b) :
    Calls Tryd.prog 69 #[.int .i64 a, .int .i64 b, .int .i64 m] w fun e w' => e = .returned (.int .i64 ((a - b) % m)) ∧ w = w' := by
  have HE := Int.sub_emod a b m
  have a0 := Int.emod_nonneg a (show m ≠ 0 by omega)
  have a1 := Int.emod_lt_of_pos a (show 0 < m by omega)
  have b0 := Int.emod_nonneg b (show m ≠ 0 by omega)
  have b1 := Int.emod_lt_of_pos b (show 0 < m by omega)
  generalize hx : a % m = x at *
  generalize hy : b % m = y at *
  by_cases h : x < y
  · have e : (x - y) % m = x + (m - y) := by
      have : (x - y) % m = (x - y + m) % m := by rw [Int.add_emod_right]
      rw [this, Int.emod_eq_of_lt (by omega) (by omega)]; omega
    have HF := Lib.hid (HE.trans e)
    have HX := Lib.hid hx
    have HY := Lib.hid hy
    clear e HE hx hy
    go_enter Tryd.func69, Tryd.ntmps69
    go_wp2_with fail
    refine (rresidue_any a m _ hm hm2 ha.1 ha.2).mono ?_
    rw [HX.out]
    rintro e w' ⟨rfl, rfl⟩
    go_wp2_with fail
    refine (rresidue_any b m _ hm hm2 hb.1 hb.2).mono ?_
    rw [HY.out]
    rintro e w' ⟨rfl, rfl⟩
    go_wp2_with fail
    go_ret
    exact ⟨ret_int HF.out.symm, rfl⟩
  · have e : (x - y) % m = x - y := Int.emod_eq_of_lt (by omega) (by omega)
    have HF := Lib.hid (HE.trans e)
    have HX := Lib.hid hx
    have HY := Lib.hid hy
    clear e HE hx hy
    go_enter Tryd.func69, Tryd.ntmps69
    go_wp2_with fail
    refine (rresidue_any a m _ hm hm2 ha.1 ha.2).mono ?_
    rw [HX.out]
    rintro e w' ⟨rfl, rfl⟩
    go_wp2_with fail
    refine (rresidue_any b m _ hm hm2 hb.1 hb.2).mono ?_
    rw [HY.out]
    rintro e w' ⟨rfl, rfl⟩
    go_wp2_with fail
    go_ret
    exact ⟨ret_int HF.out.symm, rfl⟩

theorem dbl_step (x y out c m : Int) (h : (out + x * y) % m = c) (hy : 0 ≤ y) :
    (if y % 2 = 1 then ((out + x) % m + (x + x) % m * (y / 2)) % m else (out + (x + x) % m * (y / 2)) % m) = c := by
  have e : x * y = (x + x) * (y / 2) + x * (y % 2) := by
    have h1 := Int.mul_ediv_add_emod y 2
    rw [Int.add_mul, ← Int.mul_add]
    rw [← Int.mul_add]
    congr 1; omega
  rw [← h, e]
  by_cases h2 : y % 2 = 1
  · rw [if_pos h2, h2, Int.mul_one, Int.add_emod ((out + x) % m), Int.emod_emod, ← Int.add_emod, Int.add_emod, Int.mul_emod, Int.emod_emod, ← Int.mul_emod, ← Int.add_emod]
    congr 1; omega
  · have h3 : y % 2 = 0 := by omega
    rw [if_neg h2, h3, Int.mul_zero, Int.add_zero, Int.add_emod, Int.mul_emod, Int.emod_emod, ← Int.mul_emod, ← Int.add_emod]

theorem mul_bd (x y : Int) (hx : 0 ≤ x) (hx2 : x ≤ 2147483647) (hy : 0 ≤ y) (hy2 : y ≤ 2147483647) : 0 ≤ x * y ∧ x * y ≤ 4611686014132420609 := by
  refine ⟨Int.mul_nonneg hx hy, ?_⟩
  have : x * y ≤ 2147483647 * 2147483647 := Int.mul_le_mul hx2 hy2 hy (by omega)
  omega
def Dbl (out x y c m : Int) : Prop := (out + x * y) % m = c
theorem dbl_one {x y out c m : Int} (h : Dbl out x y c m) (hy : 0 ≤ y) (h1 : y % 2 = 1) : Dbl ((out + x) % m) ((x + x) % m) (y / 2) c m := by
  have := dbl_step x y out c m h hy; rw [if_pos h1] at this; exact this
theorem dbl_zero {x y out c m : Int} (h : Dbl out x y c m) (hy : 0 ≤ y) (h1 : y % 2 = 0) : Dbl out ((x + x) % m) (y / 2) c m := by
  have := dbl_step x y out c m h hy; rw [if_neg (by omega)] at this; exact this
theorem dbl_end {x out c m : Int} (h : Dbl out x 0 c m) (h0 : 0 ≤ out) (h1 : out < m) : out = c := by
  unfold Dbl at h
  rw [Int.mul_zero, Int.add_zero, Int.emod_eq_of_lt h0 h1] at h
  exact h

/-- the reference's Mul -/
theorem rmul_any (a b m : Int) (w : World) (hm : 1 ≤ m) (hm2 : m ≤ 9223372036854775807) (ha : I64 a) (hb : I64 b) :
    Calls Tryd.prog 24 #[.int .i64 a, .int .i64 b, .int .i64 m] w fun e w' => e = .returned (.int .i64 (a * b % m)) ∧ w = w' := by
  have HE := Int.mul_emod a b m
  have a0 := Int.emod_nonneg a (show m ≠ 0 by omega)
  have a1 := Int.emod_lt_of_pos a (show 0 < m by omega)
  have b0 := Int.emod_nonneg b (show m ≠ 0 by omega)
  have b1 := Int.emod_lt_of_pos b (show 0 < m by omega)
  generalize hx : a % m = x at *
  generalize hy : b % m = y at *
  generalize hc : a * b % m = c at *
  have HX := Lib.hid hx
  have HY := Lib.hid hy
  have HF := Lib.hid HE
  clear hx hy hc HE
  have hb0 : (m == 0) = false := by simp; omega
  by_cases h1 : x < 2147483648 ∧ y < 2147483648
  · obtain ⟨k1, k2⟩ := h1
    obtain ⟨k3, k4⟩ := mul_bd x y a0 (by omega) b0 (by omega)
    go_enter Tryd.func24, Tryd.ntmps24
    go_wp2_with fail
    refine (rresidue_any a m _ hm hm2 ha.1 ha.2).mono ?_
    rw [HX.out]
    rintro e w' ⟨rfl, rfl⟩
    go_wp2_with fail
    refine (rresidue_any b m _ hm hm2 hb.1 hb.2).mono ?_
    rw [HY.out]
    rintro e w' ⟨rfl, rfl⟩
    go_wp2_with fail
    go_ret
    exact ⟨ret_int HF.out.symm, rfl⟩
  · have HD := Lib.hid (show Dbl 0 x y c m by unfold Dbl; rw [Int.zero_add]; exact HF.out.symm)
    have alt : (x < 2147483648 ∧ ¬ y < 2147483648) ∨ ¬ x < 2147483648 := by
      by_cases h3 : x < 2147483648
      · exact .inl ⟨h3, fun h4 => h1 ⟨h3, h4⟩⟩
      · exact .inr h3
    clear h1
    rcases alt with ⟨k1, k2⟩ | k1
    all_goals
      go_enter Tryd.func24, Tryd.ntmps24
      go_wp2_with fail
      refine (rresidue_any a m _ hm hm2 ha.1 ha.2).mono ?_
      rw [HX.out]
      rintro e w' ⟨rfl, rfl⟩
      go_wp2_with fail
      refine (rresidue_any b m _ hm hm2 hb.1 hb.2).mono ?_
      rw [HY.out]
      rintro e w' ⟨rfl, rfl⟩
      go_wp2_with fail
      go_loop [7, 8, 9] (fun xv yv ov => ∃ x y out : Int, xv = .int .i64 x ∧ yv = .int .i64 y ∧ ov = .int .i64 out ∧ 0 ≤ x ∧ x < m ∧ 0 ≤ y ∧ y < m ∧ 0 ≤ out ∧ out < m ∧ Hid (Dbl out x y c m)) (fun _ yv _ => (intOf yv).toNat)
      case atStart => exact ⟨x, y, 0, rfl, rfl, rfl, a0, a1, b0, b1, by omega, by omega, HD⟩
      case round =>
        obtain ⟨x2, y2, o2, rfl, rfl, rfl, g1, g2, g3, g4, g5, g6, hd⟩ := hrel
        have s0 := Int.emod_nonneg (x2 + x2) (show m ≠ 0 by omega)
        have s1 := Int.emod_lt_of_pos (x2 + x2) (show 0 < m by omega)
        have t0 := Int.emod_nonneg (o2 + x2) (show m ≠ 0 by omega)
        have t1 := Int.emod_lt_of_pos (o2 + x2) (show 0 < m by omega)
        by_cases hy0 : 0 < y2
        · by_cases hodd : y2 % 2 = 1
          · have hodd' : (y2 % 2 == 1) = true := by simp [hodd]
            have HN := Lib.hid (dbl_one hd.out g3 hodd)
            clear hodd
            go_wp2_with fail
            refine (plus_any o2 x2 m _ hm hm2 g5 g6 g1 g2).mono ?_
            rintro e w' ⟨rfl, rfl⟩
            go_wp2_with fail
            refine (plus_any x2 x2 m _ hm hm2 g1 g2 g1 g2).mono ?_
            rintro e w' ⟨rfl, rfl⟩
            go_wp2_with fail
            go_round
            case rel => exact ⟨_, _, _, rfl, rfl, rfl, s0, s1, by omega, by omega, t0, t1, HN⟩
            case measure => simp [intOf]; omega
          · have hodd' : (y2 % 2 == 1) = false := by simp [hodd]
            have HN := Lib.hid (dbl_zero hd.out g3 (by omega))
            clear hodd
            go_wp2_with fail
            refine (plus_any x2 x2 m _ hm hm2 g1 g2 g1 g2).mono ?_
            rintro e w' ⟨rfl, rfl⟩
            go_wp2_with fail
            go_round
            case rel => exact ⟨_, _, _, rfl, rfl, rfl, s0, s1, by omega, by omega, g5, g6, HN⟩
            case measure => simp [intOf]; omega
        · obtain rfl : y2 = 0 := by omega
          have HN := Lib.hid (dbl_end hd.out g5 g6)
          go_wp2_with fail
          go_ret
          exact ⟨ret_int HN.out, rfl⟩

theorem ipow_emod (a m : Int) : ∀ n : Nat, (a % m) ^ n % m = a ^ n % m
  | 0 => by rw [Int.pow_zero, Int.pow_zero]
  | n + 1 => by rw [Int.pow_succ, Int.pow_succ, Int.mul_emod, ipow_emod a m n, Int.emod_emod, ← Int.mul_emod]
/-- a step of the reference's Pow -/
def Pw (out x : Int) (n : Nat) (c m : Int) : Prop := out * x ^ n % m = c
theorem pw_one {out x c m : Int} {n : Nat} (h : Pw out x n c m) (h1 : n % 2 = 1) : Pw (out * x % m) (x * x % m) (n / 2) c m := by
  unfold Pw at *
  have e : x ^ n = x * (x * x) ^ (n / 2) := by
    have e2 : (x * x) ^ (n / 2) = x ^ (2 * (n / 2)) := by rw [Int.pow_mul, Int.pow_succ, Int.pow_succ, Int.pow_zero, Int.one_mul]
    rw [e2, ← Int.pow_succ']
    congr 1; omega
  rw [← h, e, Int.mul_emod, Int.emod_emod, ipow_emod, ← Int.mul_emod, Int.mul_assoc]
theorem pw_zero {out x c m : Int} {n : Nat} (h : Pw out x n c m) (h1 : n % 2 = 0) : Pw out (x * x % m) (n / 2) c m := by
  unfold Pw at *
  have e : x ^ n = (x * x) ^ (n / 2) := by
    have e2 : (x * x) ^ (n / 2) = x ^ (2 * (n / 2)) := by rw [Int.pow_mul, Int.pow_succ, Int.pow_succ, Int.pow_zero, Int.one_mul]
    rw [e2]
    congr 1; omega
  rw [← h, e, Int.mul_emod, ipow_emod, ← Int.mul_emod]
theorem pw_end {out x c m : Int} (h : Pw out x 0 c m) (h0 : 0 ≤ out) (h1 : out < m) : out = c := by
  unfold Pw at h
  rw [Int.pow_zero, Int.mul_one, Int.emod_eq_of_lt h0 h1] at h
  exact h
theorem pw_start (a m : Int) (n : Nat) : Pw (1 % m) (a % m) n (pm a n m) m := by
  unfold Pw pm
  rw [Int.mul_emod, Int.emod_emod, ipow_emod, ← Int.mul_emod, Int.one_mul]

/-- the reference's Pow -/
theorem rpow_any (a n m : Int) (w : World) (hm : 1 ≤ m) (hm2 : m ≤ 9223372036854775807) (ha : I64 a) (hn : 0 ≤ n) (hn2 : n ≤ 9223372036854775807) :
    Calls Tryd.prog 26 #[.int .i64 a, .int .i64 n, .int .i64 m] w fun e w' => e = .returned (.int .i64 (pm a n.toNat m)) ∧ w = w' := by
  obtain ⟨N, rfl⟩ := Int.eq_ofNat_of_zero_le hn
  rw [Int.toNat_natCast]
  have HS := Lib.hid (pw_start a m N)
  have a0 := Int.emod_nonneg a (show m ≠ 0 by omega)
  have a1 := Int.emod_lt_of_pos a (show 0 < m by omega)
  have o0 := Int.emod_nonneg 1 (show m ≠ 0 by omega)
  have o1 := Int.emod_lt_of_pos 1 (show 0 < m by omega)
  generalize pm a N m = c at *
  go_enter Tryd.func26, Tryd.ntmps26
  go_wp2_with fail
  refine (rresidue_any 1 m _ hm hm2 (by omega) (by omega)).mono ?_
  rintro e w' ⟨rfl, rfl⟩
  go_wp2_with fail
  refine (rresidue_any a m _ hm hm2 ha.1 ha.2).mono ?_
  rintro e w' ⟨rfl, rfl⟩
  go_wp2_with fail
  go_loop [1, 7, 8] (fun nv ov xv => ∃ (n : Nat) (out x : Int), nv = .int .i64 n ∧ ov = .int .i64 out ∧ xv = .int .i64 x ∧ (n : Int) ≤ 9223372036854775807 ∧ 0 ≤ out ∧ out < m ∧ 0 ≤ x ∧ x < m ∧ Hid (Pw out x n c m)) (fun nv _ _ => (intOf nv).toNat)
  case atStart => exact ⟨N, _, _, rfl, rfl, rfl, hn2, o0, o1, a0, a1, HS⟩
  case round =>
    obtain ⟨k, o2, x2, rfl, rfl, rfl, g0, g1, g2, g3, g4, hd⟩ := hrel
    have s0 := Int.emod_nonneg (x2 * x2) (show m ≠ 0 by omega)
    have s1 := Int.emod_lt_of_pos (x2 * x2) (show 0 < m by omega)
    have t0 := Int.emod_nonneg (o2 * x2) (show m ≠ 0 by omega)
    have t1 := Int.emod_lt_of_pos (o2 * x2) (show 0 < m by omega)
    by_cases hk : 0 < k
    · by_cases hodd : k % 2 = 1
      · have hodd' : ((k : Int) % 2 == 1) = true := by simp; omega
        have HN := Lib.hid (pw_one hd.out hodd)
        clear hodd
        go_wp2_with fail
        refine (rmul_any o2 x2 m _ hm hm2 ⟨by omega, by omega⟩ ⟨by omega, by omega⟩).mono ?_
        rintro e w' ⟨rfl, rfl⟩
        go_wp2_with fail
        refine (rmul_any x2 x2 m _ hm hm2 ⟨by omega, by omega⟩ ⟨by omega, by omega⟩).mono ?_
        rintro e w' ⟨rfl, rfl⟩
        go_wp2_with fail
        go_round
        case rel => exact ⟨k / 2, _, _, by simp, rfl, rfl, by omega, t0, t1, s0, s1, HN⟩
        case measure => simp [intOf]; omega
      · have hodd' : ((k : Int) % 2 == 1) = false := by simp; omega
        have HN := Lib.hid (pw_zero hd.out (by omega))
        clear hodd
        go_wp2_with fail
        refine (rmul_any x2 x2 m _ hm hm2 ⟨by omega, by omega⟩ ⟨by omega, by omega⟩).mono ?_
        rintro e w' ⟨rfl, rfl⟩
        go_wp2_with fail
        go_round
        case rel => exact ⟨k / 2, _, _, by simp, rfl, rfl, by omega, g1, g2, s0, s1, HN⟩
        case measure => simp [intOf]; omega
    · obtain rfl : k = 0 := by omega
      have HN := Lib.hid (pw_end hd.out g1 g2)
      go_wp2_with fail
      go_ret
      exact ⟨ret_int HN.out, rfl⟩
end Go.Proofs.YtjmdfipofgmakaaDoor
