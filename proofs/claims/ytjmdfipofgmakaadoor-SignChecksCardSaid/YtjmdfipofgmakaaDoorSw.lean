/-
  Signatures, plain: those that are made are accepted, and no other S is.
-/
import Derived.Test.YtjmdfipofgmakaaDoorSv
namespace Go.Proofs.YtjmdfipofgmakaaDoor
open Go.RowKit Go.Shelf
set_option linter.unusedVariables false
set_option linter.unusedSimpArgs false

theorem sig_nat (N X E : Nat) : 4 ^ ((N + X * E % gQ) % gQ) % gP = 4 ^ N % gP * ((4 ^ X % gP) ^ E % gP) % gP := by
  have h : ((N + X * E % gQ) % gQ) % gQ = (N + X * E) % gQ := by rw [Nat.mod_mod, Nat.add_mod, Nat.mod_mod, ← Nat.add_mod]
  rw [pow_congr Mem_four.one h, ← Nat.pow_mod, ← Nat.mul_mod, ← Nat.pow_mul, ← Nat.pow_add]
theorem pm_cast (A n : Nat) : pm (A : Int) n 2305843009213691579 = ((A ^ n % gP : Nat) : Int) := pm_nat A n gP
theorem sig_int (n x e : Int) (hn : 0 ≤ n) (hx : 0 ≤ x) (he : 0 ≤ e) :
    pm 4 ((n + x * e % 1152921504606845789) % 1152921504606845789).toNat 2305843009213691579 = pm 4 n.toNat 2305843009213691579 * pm (pm 4 x.toNat 2305843009213691579) e.toNat 2305843009213691579 % 2305843009213691579 := by
  obtain ⟨N, rfl⟩ := Int.eq_ofNat_of_zero_le hn
  obtain ⟨X, rfl⟩ := Int.eq_ofNat_of_zero_le hx
  obtain ⟨E, rfl⟩ := Int.eq_ofNat_of_zero_le he
  have e1 : (((N : Int) + (X : Int) * (E : Int) % 1152921504606845789) % 1152921504606845789) = (((N + X * E % gQ) % gQ : Nat) : Int) := by
    rw [Int.natCast_emod, Int.natCast_add, Int.natCast_emod, Int.natCast_mul]; rfl
  rw [e1]
  simp only [Int.toNat_natCast]
  have h4 : ∀ k, pm 4 k 2305843009213691579 = ((4 ^ k % gP : Nat) : Int) := fun k => pm_cast 4 k
  rw [h4, h4, h4, pm_cast, sig_nat]
  rw [Int.natCast_emod (4 ^ N % gP * ((4 ^ X % gP) ^ E % gP)), Int.natCast_mul]
  rfl
theorem pubK_mem (x : Int) : memB (pubK x) = true := by
  unfold pubK
  have h4 : ∀ k, pm 4 k 2305843009213691579 = ((4 ^ k % gP : Nat) : Int) := fun k => pm_cast 4 k
  rw [h4]
  exact memB_nat (Mem_four.pow _)
theorem sigS_range (x : Int) (t : List UInt8) : 0 ≤ sigS x t ∧ sigS x t < 1152921504606845789 := by unfold sigS; omega
/-- a signature that is made is accepted -/
theorem ver_sign (secret : Int) (text : List UInt8) : verB (pubK (secret % 1152921504606845789)) text (sigR secret text) (sigS secret text) = true := by
  have hs := sigS_range secret text
  have hn := nonceS_range secret text
  have he := scal_range (hashT [99] text [sigR secret text, pubK (secret % 1152921504606845789)])
  have h := sig_int (nonceS secret text) (secret % 1152921504606845789) (chal (sigR secret text) (pubK (secret % 1152921504606845789)) text) (by omega) (by omega) he.1
  unfold verB
  rw [pubK_mem, show memB (sigR secret text) = true from pubK_mem _, decide_eq_true hs.1, decide_eq_true hs.2, Bool.true_and, Bool.true_and, Bool.true_and, Bool.true_and, beq_iff_eq]
  exact h
/-- and no other S -/
theorem ver_one {key r s t : Int} {text : List UInt8} (h : verB key text r s = true) (k : verB key text r t = true) : s = t := by
  unfold verB at h k
  simp only [Bool.and_eq_true, decide_eq_true_eq, beq_iff_eq] at h k
  obtain ⟨_, _, s0, s1, e1⟩ := h
  obtain ⟨_, _, t0, t1, e2⟩ := k
  have e := e1.trans e2.symm
  obtain ⟨S, rfl⟩ := Int.eq_ofNat_of_zero_le s0
  obtain ⟨T, rfl⟩ := Int.eq_ofNat_of_zero_le t0
  have h4 : ∀ k, pm 4 k 2305843009213691579 = ((4 ^ k % gP : Nat) : Int) := fun k => pm_cast 4 k
  rw [Int.toNat_natCast, Int.toNat_natCast, h4, h4] at e
  have e' := log_unique Mem_four (by decide) (Int.ofNat.inj e)
  have hS : S < gQ := by show S < 1152921504606845789; omega
  have hT : T < gQ := by show T < 1152921504606845789; omega
  rw [Nat.mod_eq_of_lt hS, Nat.mod_eq_of_lt hT] at e'
  rw [e']
end Go.Proofs.YtjmdfipofgmakaaDoor
