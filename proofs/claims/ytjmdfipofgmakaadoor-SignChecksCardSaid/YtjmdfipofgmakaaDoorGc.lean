/-
  Package group's Pow: contract.
-/
import Derived.Test.YtjmdfipofgmakaaDoorGb
namespace Go.Proofs.YtjmdfipofgmakaaDoor
open Go.RowKit
set_option linter.unusedVariables false
set_option linter.unusedSimpArgs false

def pm (a : Int) (e : Nat) (m : Int) : Int := a ^ e % m
theorem pm_bd (a : Int) (e : Nat) (m : Int) (hm : 1 ≤ m) : 0 ≤ pm a e m ∧ pm a e m < m := ⟨Int.emod_nonneg _ (by omega), Int.emod_lt_of_pos _ (by omega)⟩
theorem pm_even (a : Int) (e : Nat) (m : Int) : pm a e m * pm a e m % m = pm a (2 * e) m := by
  unfold pm; rw [← Int.mul_emod, ← Int.pow_add, ← Nat.two_mul]
theorem pm_odd (a : Int) (e : Nat) (m : Int) : pm a e m * a % m = pm a (e + 1) m := by
  unfold pm; rw [Int.pow_succ, Int.mul_emod, Int.emod_emod, ← Int.mul_emod]

/-- the closure in Pow: one binary digit -/
def stepI (x a m b : Int) : Int := if b = 1 then x * x % m * a % m else x * x % m
theorem step_any (bx bm ba : Nat) (x a m b : Int) (w : World) (hx : At w bx 3 [.int .i64 x]) (hmm : At w bm 3 [.int .i64 m]) (haa : At w ba 3 [.int .i64 a]) (n1 : bx ≠ bm) (n2 : bx ≠ ba) (hm : 1 ≤ m) (hm2 : m ≤ 9223372036854775807) (ha : I64 a) (hxi : I64 x) :
    Calls Tryd.prog 94 #[.int .i64 b, .pointer (some ⟨bx, 0, none⟩), .pointer (some ⟨bm, 0, none⟩), .pointer (some ⟨ba, 0, none⟩)] w fun e w' => e = .returned (.tuple #[]) ∧ At w' bx 3 [.int .i64 (stepI x a m b)] ∧ Only (· = bx) w w' := by
  have c1 := hx.cell (i := 0) rfl
  have c2 := hmm.cell (i := 0) rfl
  have c3 := haa.cell (i := 0) rfl
  have f1 := hx.frozen 0
  have e0 := Int.emod_nonneg (x * x) (show m ≠ 0 by omega)
  have e1 := Int.emod_lt_of_pos (x * x) (show 0 < m by omega)
  have HX := Lib.hid hx
  by_cases hb : b = 1
  · have hb' : (b == 1) = true := by simp [hb]
    have HB := Lib.hid hb
    clear hb hx hmm haa
    go_enter Tryd.func94, Tryd.ntmps94
    go_wp2_with fail
    refine (mul_any x x m _ hm hm2 hxi hxi).mono ?_
    rintro e w' ⟨rfl, k, rfl⟩
    go_wp2_with fail
    refine (mul_any _ a m _ hm hm2 ⟨by omega, by omega⟩ ha).mono ?_
    rintro e w' ⟨rfl, k2, rfl⟩
    go_wp2_with fail
    go_end0
    refine ⟨rfl, ?_, ?_⟩
    · unfold stepI
      rw [if_pos HB.out]
      exact ((((HX.out.drewN _).put 0 _).drewN _).put 0 _)
    · exact ((((Only.refl (· = bx) w).drewN _).put (fun _ => rfl) _).drewN _).put (fun _ => rfl) _
  · have hb' : (b == 1) = false := by simp [hb]
    have HB := Lib.hid hb
    clear hb hx hmm haa
    go_enter Tryd.func94, Tryd.ntmps94
    go_wp2_with fail
    refine (mul_any x x m _ hm hm2 hxi hxi).mono ?_
    rintro e w' ⟨rfl, k, rfl⟩
    go_wp2_with fail
    go_end0
    refine ⟨rfl, ?_, ?_⟩
    · unfold stepI
      rw [if_neg HB.out]
      exact ((HX.out.drewN _).put 0 _)
    · exact ((Only.refl (· = bx) w).drewN _).put (fun _ => rfl) _


theorem i64_bit (X : Nat) (h : X < 9223372036854775808) : bits .and .i64 (X : Int) 1 = ((X % 2 : Nat) : Int) := by
  show IntKind.i64.wrap ((BitVec.ofInt 64 (X : Int) &&& BitVec.ofInt 64 1).toNat : Int) = _
  have e1 : (BitVec.ofInt 64 (X : Int)).toNat = X := by simp [BitVec.toNat_ofInt]; omega
  rw [BitVec.toNat_and, e1, show (BitVec.ofInt 64 1).toNat = 1 from rfl, Nat.and_one_is_mod]
  simp [IntKind.wrap, IntKind.bits, IntKind.signed]
  omega
/-- the exponents on the way -/
theorem pow_next (a m : Int) (N k : Nat) (hk : k < 63) (hN : N < 9223372036854775808) :
    stepI (pm a (N / 2 ^ (63 - k)) m) a m (bits .and .i64 ((N : Int) / 2 ^ (62 - k)) 1) = pm a (N / 2 ^ (63 - (k + 1))) m := by
  have e0 : (N : Int) / 2 ^ (62 - k) = ((N / 2 ^ (62 - k) : Nat) : Int) := by simp
  have hle := Nat.div_le_self N (2 ^ (62 - k))
  have e1 : N / 2 ^ (63 - k) = N / 2 ^ (62 - k) / 2 := by rw [Nat.div_div_eq_div_mul, ← Nat.pow_succ]; congr 2; omega
  rw [e0, i64_bit _ (by omega), e1, show 63 - (k + 1) = 62 - k by omega]
  generalize N / 2 ^ (62 - k) = X at *
  unfold stepI
  rw [pm_even]
  by_cases h : X % 2 = 1
  · rw [if_pos (by omega), pm_odd]
    congr 1; omega
  · rw [if_neg (by omega)]
    congr 1; omega
theorem pow_start (a m : Int) (N : Nat) (hN : N < 9223372036854775808) : 1 % m = pm a (N / 2 ^ 63) m := by
  have : N / 2 ^ 63 = 0 := by omega
  rw [this]
  unfold pm
  rw [Int.pow_zero]

/-- package group's Pow -/
theorem pow_any (a n m : Int) (w : World) (hm : 1 ≤ m) (hm2 : m ≤ 9223372036854775807) (ha : I64 a) (hn : 0 ≤ n) (hn2 : n ≤ 9223372036854775807) :
    Calls Tryd.prog 54 #[.int .i64 a, .int .i64 n, .int .i64 m] w fun e w' => e = .returned (.int .i64 (pm a n.toNat m)) ∧ Only (fun _ => False) w w' := by
  obtain ⟨N, rfl⟩ := Int.eq_ofNat_of_zero_le hn
  rw [Int.toNat_natCast]
  go_enter Tryd.func54, Tryd.ntmps54
  go_wp2_with fail
  refine (residue_any 1 m _ hm hm2 (by omega) (by omega)).mono ?_
  rintro e w' ⟨rfl, rfl⟩
  go_wp2_with fail
  have b0 := At.new w 3 [.int .i64 a]
  have b1 := At.new (w.alloc (.cells #[.int .i64 a] 3)) 3 [.int .i64 m]
  have b2 := At.new ((w.alloc (.cells #[.int .i64 a] 3)).alloc (.cells #[.int .i64 m] 3)) 3 [.int .i64 (1 % m)]
  simp only [World.size_alloc] at b1 b2
  have B0 := Lib.hid ((b0.alloc (.cells #[.int .i64 m] 3)).alloc (.cells #[.int .i64 (1 % m)] 3))
  have B1 := Lib.hid (b1.alloc (.cells #[.int .i64 (1 % m)] 3))
  have B2 := Lib.hid b2
  have O0 := Lib.hid ((((Only.refl (fun _ => False) w).alloc (.cells #[.int .i64 a] 3)).alloc (.cells #[.int .i64 m] 3)).alloc (.cells #[.int .i64 (1 % m)] 3))
  clear b0 b1 b2
  go_loopw [19] (fun kv wr => ∃ k : Nat, k ≤ 63 ∧ kv = .int .i64 k ∧ At wr w.heap.size 3 [.int .i64 a] ∧ At wr (w.heap.size + 1) 3 [.int .i64 m] ∧ At wr (w.heap.size + 1 + 1) 3 [.int .i64 (pm a (N / 2 ^ (63 - k)) m)] ∧ Only (fun _ => False) w wr) (fun kv _ => 63 - (intOf kv).toNat)
  case atStart => exact ⟨0, by omega, rfl, B0.out, B1.out, by rw [Nat.sub_zero, ← pow_start a m N (by omega)]; exact B2.out, O0.out⟩
  case round =>
    clear B0 B1 B2 O0
    obtain ⟨k, hk, rfl, h0, h1, h2, ho⟩ := hrel
    by_cases hlt : k < 63
    · have bd := pm_bd a (N / 2 ^ (63 - k)) m hm
      have H0 := Lib.hid h0
      have H1 := Lib.hid h1
      have H2 := Lib.hid h2
      have HO := Lib.hid ho
      clear h0 h1 h2 ho
      go_wp2_with fail
      refine (step_any _ _ _ _ _ _ _ _ H2.out H1.out H0.out (by omega) (by omega) hm hm2 ha ⟨by omega, by omega⟩).mono ?_
      rw [pow_next a m N k hlt (by omega)]
      rintro e w2 ⟨rfl, g2, o2⟩
      have G0 := Lib.hid (H0.out.only o2 (by omega))
      have G1 := Lib.hid (H1.out.only o2 (by omega))
      have G2 := Lib.hid g2
      have GO := Lib.hid (HO.out.trans (o2.mono (T := fun i => w.heap.size ≤ i) (fun i _ h => by omega)) (fun i hi h => by omega))
      clear g2 o2
      go_wp2_with fail
      go_roundw
      case rel => exact ⟨k + 1, by omega, by go_num, G0.out, G1.out, G2.out, GO.out⟩
      case measure => simp [intOf]; omega
    · obtain rfl : k = 63 := by omega
      have c := h2.cell (i := 0) rfl
      have HO := Lib.hid ho
      clear h0 h1 h2 ho
      go_wp2_with fail
      go_ret
      exact ⟨ret_int (by simp), HO.out⟩

end Go.Proofs.YtjmdfipofgmakaaDoor
