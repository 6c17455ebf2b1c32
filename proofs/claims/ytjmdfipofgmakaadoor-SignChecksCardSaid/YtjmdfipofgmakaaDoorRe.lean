/-
  sortesref04.number, Scalar: contracts.
-/
import Derived.Test.YtjmdfipofgmakaaDoorRd
namespace Go.Proofs.YtjmdfipofgmakaaDoor
open Go.RowKit Go.Shelf
set_option linter.unusedVariables false
set_option linter.unusedSimpArgs false

/-- the reference's number of a hash -/
def refA (l : List UInt8) : Nat → Nat
  | 0 => (l.getD 0 0).toNat % 128
  | k + 1 => refA l k * 256 + (l.getD (k + 1) 0).toNat
theorem refA_lt (l : List UInt8) : ∀ k, refA l k < 128 * 256 ^ k
  | 0 => by unfold refA; omega
  | k + 1 => by
    have h := refA_lt l k
    have := (l.getD (k + 1) 0).toNat_lt
    unfold refA
    rw [Nat.pow_succ]
    omega
theorem or_add (a : Nat) (b : UInt8) (h : a < 72057594037927936) : bits .or .u64 (IntKind.u64.wrap ((a : Int) * 256)) (IntKind.u64.wrap (b.toNat : Int)) = ((a * 256 + b.toNat : Nat) : Int) := by
  have hb := b.toNat_lt
  have e1 : IntKind.u64.wrap ((a : Int) * 256) = ((a * 256 : Nat) : Int) := by rw [IntKind.wrap_u64]; omega
  have e2 : IntKind.u64.wrap (b.toNat : Int) = ((b.toNat : Nat) : Int) := by rw [IntKind.wrap_u64]; omega
  rw [e1, e2, u64_or_nat _ _ (by omega) (by omega)]
  have := Nat.two_pow_add_eq_or_of_lt (i := 8) (b := b.toNat) (by omega) a
  rw [show (2 : Nat) ^ 8 = 256 from rfl] at this
  rw [Nat.mul_comm, ← this]
theorem mod256 (a m b : Nat) (hm : 0 < m) (hb : b < 256) : (a * 256 + b) % (m * 256) = a % m * 256 + b := by
  have e := Nat.div_add_mod a m
  have hr := Nat.mod_lt a hm
  generalize a / m = q at *
  generalize a % m = r at *
  subst e
  have : (m * q + r) * 256 + b = m * 256 * q + (r * 256 + b) := by rw [Nat.add_mul, Nat.mul_right_comm]; omega
  rw [this, Nat.mul_add_mod, Nat.mod_eq_of_lt (by omega)]
theorem accN_val (l : List UInt8) : ∀ k, k ≤ 8 → ∃ a : Nat, accN l k = (a : Int) ∧ a < 256 ^ k ∧ (∀ j, k = j + 1 → a % (128 * 256 ^ j) = refA l j)
  | 0, _ => ⟨0, rfl, by decide, fun j h => by omega⟩
  | k + 1, h => by
    obtain ⟨a, h1, h2, h3⟩ := accN_val l k (by omega)
    have hb := (l.getD k 0).toNat_lt
    have h56 : (256 : Nat) ^ k ≤ 256 ^ 7 := Nat.pow_le_pow_right (by decide) (by omega)
    have h56' : (256 : Nat) ^ 7 = 72057594037927936 := by decide
    refine ⟨a * 256 + (l.getD k 0).toNat, ?_, by rw [Nat.pow_succ]; omega, fun j hj => ?_⟩
    · rw [accN, h1]; exact or_add a _ (by omega)
    · obtain rfl : k = j := by omega
      cases k with
      | zero =>
        have ha : a = 0 := by rw [Nat.pow_zero] at h2; omega
        subst ha
        show (0 * 256 + (l.getD 0 0).toNat) % (128 * 256 ^ 0) = (l.getD 0 0).toNat % 128
        rw [Nat.zero_mul, Nat.zero_add, Nat.pow_zero, Nat.mul_one]
      | succ k =>
        have h4 := h3 k rfl
        rw [refA, ← h4, Nat.pow_succ, ← Nat.mul_assoc]
        exact mod256 _ _ _ (Nat.mul_pos (by decide) (Nat.pow_pos (by decide))) hb
theorem numH_ref (l : List UInt8) : numH l = (refA l 7 : Int) := by
  obtain ⟨a, h1, h2, h3⟩ := accN_val l 8 (by omega)
  have h4 := h3 7 rfl
  have h5 := refA_lt l 7
  have e1 : (256 : Nat) ^ 8 = 18446744073709551616 := by decide
  have e2 : 128 * (256 : Nat) ^ 7 = 9223372036854775808 := by decide
  rw [e1] at h2
  rw [e2] at h4 h5
  unfold numH
  rw [h1, show (9223372036854775807 : Int) = ((9223372036854775807 : Nat) : Int) from rfl, u64_and_nat _ _ h2 (by omega)]
  have := Nat.and_two_pow_sub_one_eq_mod a 63
  rw [show (2 : Nat) ^ 63 - 1 = 9223372036854775807 from rfl, show (2 : Nat) ^ 63 = 9223372036854775808 from rfl] at this
  rw [this, h4]
  unfold wrap64
  omega
set_option maxRecDepth 100000 in
set_option maxHeartbeats 1000000 in
theorem rnumber_any (l : List UInt8) (hl : l.length = 32) (w : World) :
    Calls Tryd.prog 109 #[.agg (bcells l).toArray] w fun e w' => e = .returned (.int .i64 (numH l)) ∧ Only (fun _ => False) w w' := by
  rw [numH_ref]
  have HL := Lib.hid hl
  clear hl
  have H0 := Lib.hid (At.new w 126 (bcells l))
  have O0 := Lib.hid ((Only.refl (fun _ => False) w).alloc (.cells (bcells l).toArray 126))
  have c0 := H0.out.cell (bcells_cell (k := 0) (by rw [HL.out]; omega))
  have R0 := Lib.hid (show (refA l 0 : Int) = ((l.getD 0 0).toNat : Int) % 128 by unfold refA; simp)
  have b0 := (l.getD 0 0).toNat_lt
  generalize l.getD 0 0 = x0 at *
  go_enter Tryd.func109, Tryd.ntmps109
  go_wp2_with fail
  go_loopw [3, 4] (fun a iv wr => ∃ k : Nat, k ≤ 7 ∧ a = .int .i64 (refA l k) ∧ iv = .int .i64 ((k : Int) + 1) ∧ Hid (At wr w.heap.size 126 (bcells l)) ∧ Hid (Only (fun _ => False) w wr)) (fun _ iv _ => 8 - (intOf iv).toNat)
  case atStart => exact ⟨0, by omega, by rw [R0.out], rfl, H0, O0⟩
  case round =>
    clear H0 O0 R0
    obtain ⟨k, hk, rfl, rfl, hA, hO⟩ := hrel
    by_cases hlt : k < 7
    · have c := hA.out.cell (bcells_cell (k := k + 1) (by rw [HL.out]; omega))
      have NX := Lib.hid (show refA l (k + 1) = refA l k * 256 + (l.getD (k + 1) 0).toNat from rfl)
      have hb := (l.getD (k + 1) 0).toNat_lt
      have hr := refA_lt l k
      have h56 : (256 : Nat) ^ k ≤ 256 ^ 6 := Nat.pow_le_pow_right (by decide) (by omega)
      have h56' : (256 : Nat) ^ 6 = 281474976710656 := by decide
      have hr2 : refA l k < 36028797018963968 := by omega
      generalize l.getD (k + 1) 0 = b at *
      generalize refA l k = x at *
      clear h56 h56' hr
      have i1 : (k : Int) + 1 < 8 := by omega
      have i2 : (x : Int) < 36028797018963968 := by omega
      have i3 : (b.toNat : Int) < 256 := by omega
      go_wp2_with fail
      go_roundw
      case rel => exact ⟨k + 1, by omega, by rw [NX.out]; congr 1 <;> omega, by congr 1 <;> omega, hA, hO⟩
      case measure => simp [intOf]; omega
    · obtain rfl : k = 7 := by omega
      go_wp2_with fail
      go_ret
      exact ⟨rfl, hO.out⟩
set_option maxRecDepth 100000 in
theorem rscalar_any (s : ByteArray) (w : World) (hs : s.size ≤ 140737488353000) :
    Calls Tryd.prog 73 #[.string s] w fun e w' => e = .returned (.int .i64 (scal s.data.toList)) ∧ Only (fun _ => False) w w' := by
  obtain ⟨t, ht⟩ : ∃ t, t = (⟨#[115, 47]⟩ : ByteArray) ++ s := ⟨_, rfl⟩
  have hz : t.size ≤ 140737488354000 := by rw [ht, ByteArray.size_append]; show 2 + s.size ≤ _; omega
  have hl : t.data.toList = [115, 47] ++ s.data.toList := by rw [ht, ByteArray.data_append]; simp
  have SM := Lib.hid (rsum_any t)
  have HZ := Lib.hid hz
  have HT := Lib.hid ht.symm
  have HS := Lib.hid (show scal s.data.toList = numH (sha t.data.toList) % 1152921504606845789 by rw [hl]; rfl)
  have h0 : 0 ≤ numH (sha t.data.toList) := by rw [numH_ref]; omega
  have h1 := (numH_range (sha t.data.toList)).2
  have HN := Lib.hid (rnumber_any (sha t.data.toList) (sha_len _))
  have hneg : ¬ (9223372036854775807 < 2 + s.size) := by omega
  clear hz hl hs ht
  go_enter Tryd.func73, Tryd.ntmps73
  go_wp2_with fail
  rw [HT.out]
  refine (SM.out _ HZ.out).mono ?_
  rintro e w1 ⟨rfl, o1⟩
  generalize sha t.data.toList = h at *
  have O1 := Lib.hid o1
  clear o1
  go_wp2_with fail
  refine (HN.out _).mono ?_
  rintro e w2 ⟨rfl, o2⟩
  have O2 := Lib.hid (O1.out.trans o2 (fun _ _ h => h))
  clear o2
  go_wp2_with fail
  go_ret
  exact ⟨by rw [HS.out]; rfl, O2.out⟩
end Go.Proofs.YtjmdfipofgmakaaDoor
