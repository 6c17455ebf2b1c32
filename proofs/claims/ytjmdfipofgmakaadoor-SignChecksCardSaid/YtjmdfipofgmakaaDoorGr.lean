/-
  The group: powers modulo P of members, plain.
-/
import Derived.Test.YtjmdfipofgmakaaDoorPk
namespace Go.Proofs.YtjmdfipofgmakaaDoor
set_option linter.unusedVariables false
set_option linter.unusedSimpArgs false

def Mem (a : Nat) : Prop := 1 ≤ a ∧ a < gP ∧ a ^ gQ % gP = 1

theorem one_lt_P : 1 < gP := by decide
theorem one_mod_P : 1 % gP = 1 := by decide
theorem Q_pos : 0 < gQ := by decide
theorem P_eq : gP = 2 * gQ + 1 := by decide

theorem Mem.one (a : Nat) (h : Mem a) : a ^ gQ % gP = 1 % gP := by rw [h.2.2, one_mod_P]
theorem pow_red {a : Nat} (h : a ^ gQ % gP = 1 % gP) (n : Nat) : a ^ n % gP = a ^ (n % gQ) % gP := by
  have e : a ^ n = a ^ (gQ * (n / gQ)) * a ^ (n % gQ) := by rw [← Nat.pow_add, Nat.div_add_mod]
  rw [e, Nat.mul_mod, pow_mod_one h, ← Nat.mul_mod, Nat.one_mul]
theorem pow_congr {a x y : Nat} (h : a ^ gQ % gP = 1 % gP) (e : x % gQ = y % gQ) : a ^ x % gP = a ^ y % gP := by
  rw [pow_red h x, pow_red h y, e]
/-- a member can be cancelled -/
theorem mem_cop {a : Nat} (h : a ^ gQ % gP = 1 % gP) : Nat.Coprime gP a := by
  refine primeP.cop fun hd => ?_
  have h0 : a ^ gQ % gP = 0 := Nat.mod_eq_zero_of_dvd (Nat.dvd_trans hd ⟨a ^ (gQ - 1), by rw [← Nat.pow_succ']; congr 1⟩)
  rw [h0, one_mod_P] at h
  exact absurd h (by decide)
theorem mem_cancel {c a b : Nat} (h : c ^ gQ % gP = 1 % gP) (e : c * a % gP = c * b % gP) : a % gP = b % gP := mod_cancel (mem_cop h) e
theorem one_pow_mem : (1 : Nat) ^ gQ % gP = 1 % gP := by rw [Nat.one_pow]
theorem mul_mem {a b : Nat} (h : a ^ gQ % gP = 1 % gP) (k : b ^ gQ % gP = 1 % gP) : (a * b) ^ gQ % gP = 1 % gP := by
  rw [Nat.mul_pow, Nat.mul_mod, h, k, ← Nat.mul_mod]
theorem pow_mem {a : Nat} (h : a ^ gQ % gP = 1 % gP) (n : Nat) : (a ^ n) ^ gQ % gP = 1 % gP := by
  rw [← Nat.pow_mul, Nat.mul_comm]; exact pow_mod_one h n
theorem mod_mem {a : Nat} (h : a ^ gQ % gP = 1 % gP) : (a % gP) ^ gQ % gP = 1 % gP := by rw [← Nat.pow_mod]; exact h
theorem mem_iff (a : Nat) : Mem a ↔ a < gP ∧ a ^ gQ % gP = 1 % gP := by
  constructor
  · intro h; exact ⟨h.2.1, h.one⟩
  · rintro ⟨h1, h2⟩
    refine ⟨?_, h1, by rw [h2, one_mod_P]⟩
    rcases Nat.eq_zero_or_pos a with h0 | h0
    · subst h0; rw [Nat.zero_pow Q_pos] at h2; exact absurd h2 (by decide)
    · exact h0
theorem Mem.pow {a : Nat} (h : Mem a) (n : Nat) : Mem (a ^ n % gP) := (mem_iff _).2 ⟨Nat.mod_lt _ (by decide), mod_mem (pow_mem h.one n)⟩
theorem Mem.mul {a b : Nat} (h : Mem a) (k : Mem b) : Mem (a * b % gP) := (mem_iff _).2 ⟨Nat.mod_lt _ (by decide), mod_mem (mul_mem h.one k.one)⟩
theorem Mem_one : Mem 1 := (mem_iff _).2 ⟨by decide, one_pow_mem⟩
theorem Mem_four : Mem 4 := (mem_iff _).2 ⟨by decide, by rw [← pw_eq gP 64 4 gQ (by decide +kernel)]; decide +kernel⟩

/-- the logarithm of a power of a member that is not 1 is determined modulo Q -/
theorem log_unique {a x y : Nat} (h : Mem a) (h1 : a ≠ 1) (e : a ^ x % gP = a ^ y % gP) : x % gQ = y % gQ := by
  have key : ∀ x y, x ≤ y → a ^ x % gP = a ^ y % gP → x % gQ = y % gQ := by
    intro x y hxy e
    have e1 : a ^ (y - x) % gP = 1 % gP := by
      have : a ^ y = a ^ x * a ^ (y - x) := by rw [← Nat.pow_add]; congr 1; omega
      rw [this] at e
      exact (mem_cancel (pow_mem h.one x) (a := 1) (by rw [Nat.mul_one]; exact e)).symm
    have hg := pow_gcd _ _ e1 h.one
    by_cases hd : gQ ∣ y - x
    · exact mod_eq_of_dvd hxy hd
    · have hc : Nat.gcd (y - x) gQ = 1 := Nat.Coprime.symm (primeQ.cop hd)
      rw [hc, Nat.pow_one, one_mod_P, Nat.mod_eq_of_lt h.2.1] at hg
      exact absurd hg h1
  rcases Nat.le_total x y with hxy | hxy
  · exact key x y hxy e
  · exact (key y x hxy e.symm).symm
/-- squares are members -/
theorem square_mem {x : Nat} (h : ¬ gP ∣ x) : Mem (x * x % gP) := by
  refine (mem_iff _).2 ⟨Nat.mod_lt _ (by decide), mod_mem ?_⟩
  have := fermat primeP h
  rw [← Nat.pow_two, ← Nat.pow_mul, show 2 * gQ = gP - 1 from rfl, this, one_mod_P]
/-- a member's negative is none -/
theorem neg_not_mem {a : Nat} (h : Mem a) : ¬ Mem (gP - a) := by
  intro k
  have hl := h.2.1
  have e : (gP - a) ^ gQ * a ^ gQ % gP = 1 % gP := by rw [Nat.mul_mod, k.one, h.one, ← Nat.mul_mod]
  have hs : ∀ n, ((gP - a) ^ (2 * n + 1) + a ^ (2 * n + 1)) % gP = 0 := by
    have s2 : (gP - a) ^ 2 % gP = a ^ 2 % gP := by
      have : (gP - a) * (gP - a) + gP * (2 * a) = a * a + gP * gP := by
        obtain ⟨b, hb⟩ : ∃ b, gP = a + b := ⟨gP - a, by omega⟩
        rw [hb, Nat.add_sub_cancel_left]
        simp only [Nat.add_mul, Nat.mul_add, Nat.two_mul]
        rw [Nat.mul_comm b a]; omega
      have e := congrArg (· % gP) this
      simp only [Nat.add_mul_mod_self_left] at e
      rw [Nat.pow_two, Nat.pow_two]; exact e
    intro n
    have e1 : (gP - a) ^ (2 * n) % gP = a ^ (2 * n) % gP := by rw [Nat.pow_mul, Nat.pow_mul, Nat.pow_mod, s2, ← Nat.pow_mod]
    rw [Nat.pow_succ, Nat.pow_succ, Nat.add_mod, Nat.mul_mod, e1, ← Nat.mul_mod, ← Nat.add_mod, ← Nat.mul_add, Nat.sub_add_cancel (by omega), Nat.mul_mod_left]
  have h2 := hs (gQ / 2)
  have hq : 2 * (gQ / 2) + 1 = gQ := by decide
  rw [hq, Nat.add_mod, k.one, h.one] at h2
  exact absurd h2 (by decide)
end Go.Proofs.YtjmdfipofgmakaaDoor
