/-
  Division of two words by one: one digit of the quotient, as math/bits' Div64 finds it, for any base.
-/
namespace Go.Proofs.YtjmdfipofgmakaaDoor
set_option linter.unusedVariables false
set_option linter.unusedSimpArgs false

/-- the digit is found: y = y1 * B + y0, u < y, u * B + u1 is divided -/
structure Dig (B y1 y0 u u1 q r : Nat) : Prop where
  hr : q * y1 + r = u
  ge : (u * B + u1) / (y1 * B + y0) ≤ q

section
variable {B y1 y0 u u1 q r : Nat}
theorem dig_start (h1 : u1 < B) (hy : 0 < y1) : Dig B y1 y0 u u1 (u / y1) (u % y1) := by
  refine ⟨by rw [Nat.mul_comm]; exact Nat.div_add_mod u y1, ?_⟩
  rw [Nat.le_div_iff_mul_le hy]
  have h := Nat.div_mul_le_self (u * B + u1) (y1 * B + y0)
  generalize (u * B + u1) / (y1 * B + y0) = d at h ⊢
  rw [Nat.mul_add, ← Nat.mul_assoc] at h
  have : d * y1 * B < (u + 1) * B := by rw [Nat.add_mul]; omega
  have := Nat.lt_of_mul_lt_mul_right this
  omega
theorem dig_small (hu : u < y1 * B + y0) (h1 : u1 < B) : (u * B + u1) / (y1 * B + y0) < B := by
  rw [Nat.div_lt_iff_lt_mul (by omega)]
  generalize y1 * B + y0 = y at *
  have : (u + 1) * B ≤ y * B := Nat.mul_le_mul_right _ (by omega)
  rw [Nat.add_mul] at this
  rw [Nat.mul_comm B]
  omega
theorem dig_step (h : Dig B y1 y0 u u1 q r) (hu : u < y1 * B + y0) (h1 : u1 < B) (ht : B ≤ q ∨ r * B + u1 < q * y0) : 0 < q ∧ Dig B y1 y0 u u1 (q - 1) (r + y1) := by
  have hs := dig_small hu h1
  have hge := h.ge
  have hr := h.hr
  have hq : (u * B + u1) / (y1 * B + y0) < q := by
    rcases ht with ht | ht
    · omega
    · rw [Nat.div_lt_iff_lt_mul (by omega)]
      rw [← hr, Nat.mul_add, ← Nat.mul_assoc, Nat.add_mul]
      omega
  have hq0 : 0 < q := Nat.lt_of_le_of_lt (Nat.zero_le _) hq
  refine ⟨hq0, ?_, Nat.le_sub_one_of_lt hq⟩
  obtain ⟨q', rfl⟩ : ∃ q', q = q' + 1 := ⟨q - 1, by omega⟩
  rw [Nat.add_sub_cancel, ← hr, Nat.add_mul]
  omega
theorem dig_end (h : Dig B y1 y0 u u1 q r) (hy : 0 < y1 * B + y0) (ht : q * y0 ≤ r * B + u1) : q = (u * B + u1) / (y1 * B + y0) := by
  refine Nat.le_antisymm ?_ h.ge
  rw [Nat.le_div_iff_mul_le hy, ← h.hr, Nat.mul_add, ← Nat.mul_assoc, Nat.add_mul]
  omega
theorem dig_stop (h : Dig B y1 y0 u u1 q r) (h0 : y0 < B) (hu : u < y1 * B + y0) (hr : B ≤ r) : q * y0 ≤ r * B + u1 := by
  have hh := h.hr
  have hq : q < B := by
    apply Classical.byContradiction
    intro hq
    have : B * y1 ≤ q * y1 := Nat.mul_le_mul_right _ (by omega)
    rw [Nat.mul_comm B] at this
    omega
  have h1 : q * y0 ≤ B * B := Nat.mul_le_mul (by omega) (by omega)
  have h2 : B * B ≤ r * B := Nat.mul_le_mul_right _ hr
  omega
theorem dig_lt (h : Dig B y1 y0 u u1 q r) (h0 : y0 < B) (hu : u < y1 * B + y0) (hr : B ≤ r) : q < B := by
  have hh := h.hr
  apply Classical.byContradiction
  intro hq
  have : B * y1 ≤ q * y1 := Nat.mul_le_mul_right _ (by omega)
  rw [Nat.mul_comm B] at this
  omega
/-- both digits together -/
theorem two_digits (hi lo y s y' un1 un0 q1 r1 q0 : Nat) (hy : y' = y * 2 ^ s) (h1 : (hi * (B * B) + lo) * 2 ^ s = u * (B * B) + un1 * B + un0) (hpos : 0 < y')
    (e1 : q1 = (u * B + un1) / y') (er : r1 = (u * B + un1) % y') (e0 : q0 = (r1 * B + un0) / y') :
    q1 * B + q0 = (hi * (B * B) + lo) / y ∧ ((r1 * B + un0) % y') / 2 ^ s = (hi * (B * B) + lo) % y := by
  have d1 := Nat.div_add_mod (u * B + un1) y'
  rw [← e1, ← er] at d1
  have d0 := Nat.div_add_mod (r1 * B + un0) y'
  rw [← e0] at d0
  have l0 := Nat.mod_lt (r1 * B + un0) hpos
  generalize (r1 * B + un0) % y' = r0 at *
  have hs : 0 < 2 ^ s := Nat.two_pow_pos s
  have hv : (hi * (B * B) + lo) * 2 ^ s = y' * (q1 * B + q0) + r0 := by
    rw [h1, ← Nat.mul_assoc u, ← Nat.add_mul, ← d1, Nat.add_mul, Nat.add_assoc, ← d0, Nat.mul_add, ← Nat.mul_assoc, Nat.add_assoc]
  have hyp : 0 < y := by
    rcases Nat.eq_zero_or_pos y with h | h
    · rw [h, Nat.zero_mul] at hy; omega
    · exact h
  have hdiv : q1 * B + q0 = (hi * (B * B) + lo) / y := by
    have : (hi * (B * B) + lo) / y = ((hi * (B * B) + lo) * 2 ^ s) / (y * 2 ^ s) := (Nat.mul_div_mul_right _ _ hs).symm
    rw [this, hv, ← hy, Nat.mul_add_div hpos, Nat.div_eq_of_lt l0, Nat.add_zero]
  refine ⟨hdiv, ?_⟩
  have hmod : ((hi * (B * B) + lo) * 2 ^ s) % (y * 2 ^ s) = r0 := by
    rw [hv, ← hy, Nat.mul_add_mod, Nat.mod_eq_of_lt l0]
  rw [Nat.mul_mod_mul_right] at hmod
  rw [← hmod, Nat.mul_div_cancel _ hs]
end
end Go.Proofs.YtjmdfipofgmakaaDoor
