/-
  Bytes of a number one by one; cells of bytes: plain.
  Natural numbers of any size as the reference computes with them, plain: digits to the base 2^24, bytes.
  sortesref01: Canon.
  sortesref01: Of.
  sortesref01: trim.
  sortesref01: cmp, times, minus over digits that lie in slices: contracts.
  sortesref01: cmp, digit over digits that lie in slices: contracts.
  sortesref01: of, number: contracts.
  sortesref01: number: contract.
  sortesref01: Quo: contract (for divisors of at most 7 bytes).
  sortesref01: Quo: contract (for divisors of at most 7 bytes).
  sortesref01: Text: contract.
  The references' decimals (chapters 06 and 07): contracts.
-/
import Derived.Lib.MinMax
import Derived.Laws.BytesArg
import Derived.Test.YtoekhpnapnhefaaGreatDoorMA
import Derived.Test.YtoekhpnapnhefaaGreatDoorMD
import Derived.Test.YtoekhpnapnhefaaGreatDoorMB
namespace Go.Proofs.YtoekhpnapnhefaaGreatDoor
open Go.RowKit Go.Shelf
set_option linter.unusedVariables false
set_option linter.unusedSimpArgs false

theorem by8_take (n : Int) (j : Nat) (h : j < 8) : (by8 n).take (j + 1) = (by8 n).take j ++ [UInt8.ofNat (n / 2 ^ (8 * (7 - j)) % 256).toNat] := by
  have e : by8 n = [UInt8.ofNat (n / 2 ^ (8 * 7) % 256).toNat, UInt8.ofNat (n / 2 ^ (8 * 6) % 256).toNat, UInt8.ofNat (n / 2 ^ (8 * 5) % 256).toNat, UInt8.ofNat (n / 2 ^ (8 * 4) % 256).toNat, UInt8.ofNat (n / 2 ^ (8 * 3) % 256).toNat, UInt8.ofNat (n / 2 ^ (8 * 2) % 256).toNat, UInt8.ofNat (n / 2 ^ (8 * 1) % 256).toNat, UInt8.ofNat (n / 2 ^ (8 * 0) % 256).toNat] := rfl
  rw [e]
  match j, h with
  | 0, _ => rfl
  | 1, _ => rfl
  | 2, _ => rfl
  | 3, _ => rfl
  | 4, _ => rfl
  | 5, _ => rfl
  | 6, _ => rfl
  | 7, _ => rfl
theorem bcells_snoc (l : List UInt8) (x : UInt8) : bcells (l ++ [x]) = bcells l ++ [.int .u8 (x.toNat : Int)] := by simp [bcells]
end Go.Proofs.YtoekhpnapnhefaaGreatDoor

namespace Go.Proofs.YtoekhpnapnhefaaGreatDoor
set_option linter.unusedVariables false
set_option linter.unusedSimpArgs false

/-- digits to the base 2^24, the least first, none of the last ones 0 -/
def lim (n : Nat) : List Nat := if h : n = 0 then [] else n % 16777216 :: lim (n / 16777216)
termination_by n
decreasing_by omega
theorem lim_zero : lim 0 = [] := by rw [lim]; rfl
theorem lim_pos {n : Nat} (h : n ≠ 0) : lim n = n % 16777216 :: lim (n / 16777216) := by
  conv => lhs; rw [lim]
  rw [dif_neg h]
def valL : List Nat → Nat
  | [] => 0
  | x :: l => x + 16777216 * valL l
def Lims (l : List Nat) : Prop := ∀ x ∈ l, x < 16777216
theorem valL_lim (n : Nat) : valL (lim n) = n := by
  induction n using Nat.strongRecOn with
  | _ n ih =>
    by_cases h : n = 0
    · subst h; rw [lim_zero]; rfl
    · rw [lim_pos h, valL, ih _ (by omega)]; omega
theorem lims_lim (n : Nat) : Lims (lim n) := by
  induction n using Nat.strongRecOn with
  | _ n ih =>
    by_cases h : n = 0
    · subst h; rw [lim_zero]; intro x hx; cases hx
    · rw [lim_pos h]
      intro x hx
      rcases List.mem_cons.1 hx with rfl | hx
      · omega
      · exact ih _ (by omega) x hx
theorem valL_append (l m : List Nat) : valL (l ++ m) = valL l + 16777216 ^ l.length * valL m := by
  induction l with
  | nil => simp [valL]
  | cons x l ih =>
    rw [List.cons_append, valL, valL, ih, List.length_cons, Nat.pow_succ, Nat.mul_add, Nat.mul_comm (16777216 ^ l.length) 16777216, Nat.mul_assoc]
    omega
theorem valL_snoc (l : List Nat) (x : Nat) : valL (l ++ [x]) = valL l + 16777216 ^ l.length * x := by rw [valL_append]; simp [valL]
theorem valL_lt : ∀ {l : List Nat}, Lims l → valL l < 16777216 ^ l.length
  | [], _ => by simp [valL]
  | x :: l, h => by
    have h1 := h x (by simp)
    have h2 := valL_lt (l := l) fun y hy => h y (by simp [hy])
    rw [valL, List.length_cons, Nat.pow_succ]
    omega
/-- the last digit is not 0 -/
def Trimmed (l : List Nat) : Prop := ∀ h : l ≠ [], l.getLast h ≠ 0
theorem lim_of : ∀ {l : List Nat}, Lims l → Trimmed l → lim (valL l) = l
  | [], _, _ => lim_zero
  | [x], h, ht => by
    have h1 := h x (by simp)
    have h2 : x ≠ 0 := ht (by simp)
    show lim (x + 16777216 * 0) = [x]
    rw [Nat.mul_zero, Nat.add_zero, lim_pos h2, Nat.mod_eq_of_lt h1, Nat.div_eq_of_lt h1, lim_zero]
  | x :: y :: l, h, ht => by
    have h1 := h x (by simp)
    have ih := lim_of (l := y :: l) (fun z hz => h z (by simp [hz])) (fun hn => by have := ht (by simp); rwa [List.getLast_cons (by simp)] at this)
    have hp : valL (y :: l) ≠ 0 := fun h0 => by rw [h0, lim_zero] at ih; cases ih
    have hne : x + 16777216 * valL (y :: l) ≠ 0 := by omega
    rw [valL, lim_pos hne, Nat.add_mul_mod_self_left, Nat.mod_eq_of_lt h1, Nat.add_mul_div_left _ _ (by decide), Nat.div_eq_of_lt h1, Nat.zero_add, ih]
theorem lim_len {n k : Nat} : n < 16777216 ^ k ↔ (lim n).length ≤ k := by
  induction k generalizing n with
  | zero =>
    rw [Nat.pow_zero]
    by_cases h : n = 0
    · subst h; rw [lim_zero]; simp
    · rw [lim_pos h]; simp; omega
  | succ k ih =>
    by_cases h : n = 0
    · subst h; rw [lim_zero]; simp; exact Nat.pow_pos (by decide)
    · rw [lim_pos h, List.length_cons, Nat.pow_succ]
      have := ih (n := n / 16777216)
      constructor
      · intro h1
        have := this.1 (by rw [Nat.div_lt_iff_lt_mul (by decide)]; exact h1)
        omega
      · intro h1
        have := this.2 (by omega)
        rwa [Nat.div_lt_iff_lt_mul (by decide)] at this
theorem lim_len_lt {a b : Nat} (h : (lim a).length < (lim b).length) : a < b := by
  have h1 := lim_len.2 (Nat.le_refl (lim a).length)
  have h2 : ¬ b < 16777216 ^ (lim a).length := fun h3 => by have := lim_len.1 h3; omega
  omega
/-- place by place -/
theorem valL_at (l : List Nat) (k : Nat) (h : k < l.length) : valL l = valL (l.take k) + 16777216 ^ k * (l.getD k 0 + 16777216 * valL (l.drop (k + 1))) := by
  have e : l = l.take k ++ (l.getD k 0 :: l.drop (k + 1)) := by
    have h2 : l.getD k 0 = l[k] := by simp [List.getD_eq_getElem?_getD, h]
    rw [h2, ← List.drop_eq_getElem_cons h, List.take_append_drop]
  conv => lhs; rw [e]
  rw [valL_append, List.length_take, Nat.min_eq_left (by omega), valL]
theorem valL_take_succ (l : List Nat) (k : Nat) (h : k < l.length) : valL (l.take (k + 1)) = valL (l.take k) + 16777216 ^ k * l.getD k 0 := by
  have h2 : l.getD k 0 = l[k] := by simp [List.getD_eq_getElem?_getD, h]
  rw [List.take_succ_eq_append_getElem h, valL_snoc, List.length_take, Nat.min_eq_left (by omega), h2]
theorem valL_drop (l : List Nat) (k : Nat) (h : k < l.length) : valL (l.drop k) = l.getD k 0 + 16777216 * valL (l.drop (k + 1)) := by
  have h2 : l.getD k 0 = l[k] := by simp [List.getD_eq_getElem?_getD, h]
  rw [List.drop_eq_getElem_cons h, valL, h2]
theorem Lims.take {l : List Nat} (h : Lims l) (k : Nat) : Lims (l.take k) := fun x hx => h x (List.mem_of_mem_take hx)
theorem Lims.drop {l : List Nat} (h : Lims l) (k : Nat) : Lims (l.drop k) := fun x hx => h x (List.mem_of_mem_drop hx)
theorem Lims.getD {l : List Nat} (h : Lims l) (k : Nat) : l.getD k 0 < 16777216 := by
  rw [List.getD_eq_getElem?_getD]
  rcases hx : l[k]? with _ | x
  · simp
  · exact h x (List.mem_of_getElem? hx)
/-- the first difference from the top decides -/
theorem cmp_at {l m : List Nat} (hl : Lims l) (hm : Lims m) (k : Nat) (h1 : k < l.length) (h2 : k < m.length) (hd : l.drop (k + 1) = m.drop (k + 1)) (hlt : l.getD k 0 < m.getD k 0) : valL l < valL m := by
  rw [valL_at l k h1, valL_at m k h2, hd]
  have a := valL_lt (hl.take k)
  rw [List.length_take, Nat.min_eq_left (by omega)] at a
  obtain ⟨d, e⟩ : ∃ d, m.getD k 0 = l.getD k 0 + 1 + d := ⟨m.getD k 0 - l.getD k 0 - 1, by omega⟩
  rw [e]
  generalize valL (m.drop (k + 1)) = t
  generalize l.getD k 0 = x at *
  generalize 16777216 ^ k = p at *
  have : p * (x + 1 + d + 16777216 * t) = p * (x + 16777216 * t) + (p + p * d) := by
    have e1 : p + p * d = p * (1 + d) := by rw [Nat.mul_add, Nat.mul_one]
    rw [e1, ← Nat.mul_add]; congr 1; omega
  rw [this]
  omega
theorem cmp_same {l m : List Nat} (h : l.drop 0 = m.drop 0) : valL l = valL m := by simpa using congrArg valL h
theorem drop_eq_step {l m : List Nat} (k : Nat) (h1 : k < l.length) (h2 : k < m.length) (hd : l.drop (k + 1) = m.drop (k + 1)) (he : l.getD k 0 = m.getD k 0) : l.drop k = m.drop k := by
  rw [List.drop_eq_getElem_cons h1, List.drop_eq_getElem_cons h2, hd]
  congr 1
  simpa [List.getD_eq_getElem?_getD, h1, h2] using he

/-- bytes, the most significant one first -/
def valB (l : List UInt8) : Nat := l.foldl (fun n c => 256 * n + c.toNat) 0
theorem valB_snoc (l : List UInt8) (c : UInt8) : valB (l ++ [c]) = 256 * valB l + c.toNat := by simp [valB]
theorem foldB_acc : ∀ (l : List UInt8) (acc : Nat), l.foldl (fun n c => 256 * n + c.toNat) acc = acc * 256 ^ l.length + valB l
  | [], acc => by simp [valB]
  | c :: l, acc => by
    unfold valB
    rw [List.foldl_cons, List.foldl_cons, foldB_acc l, foldB_acc l (256 * 0 + c.toNat), List.length_cons, Nat.pow_succ, Nat.add_mul, Nat.mul_zero, Nat.zero_add, Nat.mul_comm (256 ^ l.length) 256, ← Nat.mul_assoc, Nat.mul_comm acc 256]
    omega
theorem valB_append (l m : List UInt8) : valB (l ++ m) = valB l * 256 ^ m.length + valB m := by
  conv => lhs; unfold valB
  rw [List.foldl_append, foldB_acc]; rfl
theorem valB_cons (c : UInt8) (l : List UInt8) : valB (c :: l) = c.toNat * 256 ^ l.length + valB l := by
  have := valB_append [c] l
  simpa [valB] using this
theorem valB_lt : ∀ l : List UInt8, valB l < 256 ^ l.length
  | [] => by simp [valB]
  | c :: l => by
    have h1 := valB_lt l
    have h2 := c.toNat_lt
    rw [valB_cons, List.length_cons, Nat.pow_succ]
    have : c.toNat * 256 ^ l.length ≤ 255 * 256 ^ l.length := Nat.mul_le_mul_right _ (by omega)
    omega
/-- the bytes of a number, none of the first ones 0 -/
def beR (n : Nat) : List UInt8 := if h : n = 0 then [] else beR (n / 256) ++ [UInt8.ofNat (n % 256)]
termination_by n
decreasing_by omega
theorem beR_zero : beR 0 = [] := by rw [beR]; rfl
theorem beR_pos {n : Nat} (h : n ≠ 0) : beR n = beR (n / 256) ++ [UInt8.ofNat (n % 256)] := by
  conv => lhs; rw [beR]
  rw [dif_neg h]
theorem byte_toNat (n : Nat) : (UInt8.ofNat (n % 256)).toNat = n % 256 := by rw [UInt8.toNat_ofNat']; omega
theorem valB_beR (n : Nat) : valB (beR n) = n := by
  induction n using Nat.strongRecOn with
  | _ n ih =>
    by_cases h : n = 0
    · subst h; rw [beR_zero]; rfl
    · rw [beR_pos h, valB_snoc, ih _ (by omega), byte_toNat]; omega
/-- no 0 ahead -/
def Canon (l : List UInt8) : Prop := l.head? ≠ some 0
theorem beR_head (n : Nat) : Canon (beR n) := by
  induction n using Nat.strongRecOn with
  | _ n ih =>
    by_cases h : n = 0
    · subst h; rw [beR_zero]; simp [Canon]
    · rw [beR_pos h]
      unfold Canon
      by_cases h2 : n / 256 = 0
      · rw [h2, beR_zero, List.nil_append]
        simp only [List.head?_cons, ne_eq, Option.some.injEq]
        intro h3
        have := congrArg UInt8.toNat h3
        rw [byte_toNat] at this
        simp at this
        omega
      · have := ih _ (by omega : n / 256 < n)
        unfold Canon at this
        rw [beR_pos h2] at this ⊢
        simpa using this
theorem canon_eq : ∀ {l : List UInt8}, Canon l → beR (valB l) = l := by
  intro l
  generalize hk : l.length = k
  induction k generalizing l with
  | zero => intro _; rw [List.length_eq_zero_iff.1 hk]; exact beR_zero
  | succ k ih =>
    intro hc
    have hne : l ≠ [] := by rintro rfl; cases hk
    have e := List.dropLast_concat_getLast hne
    have hl : l.dropLast.length = k := by rw [List.length_dropLast]; omega
    have h8 := (l.getLast hne).toNat_lt
    have hcd : Canon l.dropLast := by
      unfold Canon at hc ⊢
      cases hd : l.dropLast with
      | nil => simp
      | cons x r =>
        rw [hd] at e
        rw [← e] at hc
        simpa using hc
    have ih' := ih hl hcd
    have hz : valB l = 256 * valB l.dropLast + (l.getLast hne).toNat := by
      conv => lhs; rw [← e]
      rw [valB_snoc]
    have hb : UInt8.ofNat (l.getLast hne).toNat = l.getLast hne := UInt8.ofNat_toNat
    by_cases h0 : valB l = 0
    · exfalso
      have hd0 : valB l.dropLast = 0 := by omega
      rw [hd0, beR_zero] at ih'
      rw [← ih', List.nil_append] at e
      have : (l.getLast hne).toNat = 0 := by omega
      have h1 : l.getLast hne = 0 := UInt8.toNat_inj.1 (by rw [this]; rfl)
      rw [h1] at e
      unfold Canon at hc
      rw [← e] at hc
      exact hc rfl
    · rw [beR_pos h0, hz, Nat.mul_add_div (by decide), Nat.div_eq_of_lt h8, Nat.add_zero, Nat.mul_add_mod, Nat.mod_eq_of_lt h8, hb, ih', e]
theorem beR_len {n k : Nat} : n < 256 ^ k ↔ (beR n).length ≤ k := by
  induction k generalizing n with
  | zero =>
    rw [Nat.pow_zero]
    by_cases h : n = 0
    · subst h; rw [beR_zero]; simp
    · rw [beR_pos h]; simp; omega
  | succ k ih =>
    by_cases h : n = 0
    · subst h; rw [beR_zero]; simp; exact Nat.pow_pos (by decide)
    · rw [beR_pos h, List.length_append, List.length_singleton, Nat.pow_succ]
      have := ih (n := n / 256)
      rw [Nat.div_lt_iff_lt_mul (by decide)] at this
      omega
theorem valB_zeros : ∀ (l : List UInt8), (∀ c ∈ l, c = 0) → valB l = 0
  | [], _ => rfl
  | c :: l, h => by rw [valB_cons, h c (by simp), valB_zeros l fun d hd => h d (by simp [hd])]; simp
theorem valB_drop_zero (l : List UInt8) (k : Nat) (h : k < l.length) (h0 : l.getD k 0 = 0) : valB (l.drop (k + 1)) = valB (l.drop k) := by
  have h2 : l.getD k 0 = l[k] := by simp [List.getD_eq_getElem?_getD, h]
  rw [List.drop_eq_getElem_cons h, valB_cons, ← h2, h0]; simp
theorem canon_drop (l : List UInt8) (k : Nat) (h : k < l.length → l.getD k 0 ≠ 0) : Canon (l.drop k) := by
  unfold Canon
  rw [List.head?_drop]
  rcases Nat.lt_or_ge k l.length with h1 | h1
  · have := h h1
    rw [List.getD_eq_getElem?_getD, List.getElem?_eq_getElem h1] at this
    rw [List.getElem?_eq_getElem h1]
    simpa using this
  · rw [List.getElem?_eq_none h1]; simp
theorem valB_take_succ (l : List UInt8) (k : Nat) (h : k < l.length) : valB (l.take (k + 1)) = 256 * valB (l.take k) + (l.getD k 0).toNat := by
  have h2 : l.getD k 0 = l[k] := by simp [List.getD_eq_getElem?_getD, h]
  rw [List.take_succ_eq_append_getElem h, valB_snoc, h2]
/-! ### the rounds of the loops -/
theorem take_succ_any (l : List Nat) (k : Nat) : valL (l.take (k + 1)) = valL (l.take k) + 16777216 ^ k * l.getD k 0 := by
  rcases Nat.lt_or_ge k l.length with h | h
  · exact valL_take_succ l k h
  · rw [List.take_of_length_le (by omega), List.take_of_length_le h, List.getD_eq_getElem?_getD, List.getElem?_eq_none h]; simp
theorem Lims.snoc {l : List Nat} (h : Lims l) {x : Nat} (hx : x < 16777216) : Lims (l ++ [x]) := by
  intro y hy
  rcases List.mem_append.1 hy with h1 | h1
  · exact h y h1
  · rw [List.mem_singleton] at h1; omega
/-- a product with one digit -/
structure Tms (u : List Nat) (d k : Nat) (out : List Nat) (carry : Nat) : Prop where
  len : out.length = k
  lims : Lims out
  lt : carry < 16777216
  eq : valL out + 16777216 ^ k * carry = valL (u.take k) * d
theorem tms_zero (u : List Nat) (d : Nat) : Tms u d 0 [] 0 := ⟨rfl, (fun x hx => by cases hx), by decide, by simp [valL]⟩
theorem digit_join (p s : Nat) : p * (s % 16777216) + p * 16777216 * (s / 16777216) = p * s := by
  rw [Nat.mul_assoc, ← Nat.mul_add, Nat.mod_add_div]
theorem tms_arith {o p t d x c : Nat} (h : o + p * c = t * d) : o + p * ((x * d + c) % 16777216) + p * 16777216 * ((x * d + c) / 16777216) = (t + p * x) * d := by
  rw [Nat.add_assoc, digit_join, Nat.mul_add, Nat.add_mul, ← h, Nat.mul_assoc]; omega
theorem tms_step {u : List Nat} {d k carry : Nat} {out : List Nat} (h : Tms u d k out carry) (hu : Lims u) (hd : d < 16777216) : Tms u d (k + 1) (out ++ [(u.getD k 0 * d + carry) % 16777216]) ((u.getD k 0 * d + carry) / 16777216) := by
  obtain ⟨h1, h2, h3, h4⟩ := h
  have hx := hu.getD k
  have hxd : u.getD k 0 * d ≤ 16777215 * 16777215 := Nat.mul_le_mul (by omega) (by omega)
  refine ⟨by simp [h1], h2.snoc (by omega), by omega, ?_⟩
  rw [valL_snoc, h1, take_succ_any, Nat.pow_succ]
  exact tms_arith h4
theorem tms_end {u : List Nat} {d k carry : Nat} {out : List Nat} (h : Tms u d k out carry) (hk : k = u.length) : Lims (out ++ [carry]) ∧ valL (out ++ [carry]) = valL u * d := by
  refine ⟨h.lims.snoc h.lt, ?_⟩
  have := h.eq
  rw [hk, List.take_length] at this
  rw [valL_snoc, h.len, hk]
  exact this
/-- a difference -/
structure Mns (u v : List Nat) (k : Nat) (out : List Nat) (borrow : Nat) : Prop where
  len : out.length = k
  lims : Lims out
  le : borrow ≤ 1
  eq : valL out + valL (v.take k) = valL (u.take k) + 16777216 ^ k * borrow
theorem mns_zero (u v : List Nat) : Mns u v 0 [] 0 := ⟨rfl, (fun x hx => by cases hx), by decide, by simp [valL]⟩
theorem mns_low {u v : List Nat} {k borrow : Nat} {out : List Nat} (h : Mns u v k out borrow) (hu : Lims u) (hge : v.getD k 0 + borrow ≤ u.getD k 0) : Mns u v (k + 1) (out ++ [u.getD k 0 - borrow - v.getD k 0]) 0 := by
  obtain ⟨h1, h2, h3, h4⟩ := h
  have hx := hu.getD k
  refine ⟨by simp [h1], h2.snoc (by omega), by omega, ?_⟩
  rw [valL_snoc, h1, take_succ_any, take_succ_any]
  obtain ⟨e, he⟩ : ∃ e, u.getD k 0 = v.getD k 0 + borrow + e := ⟨u.getD k 0 - (v.getD k 0 + borrow), by omega⟩
  rw [he, show v.getD k 0 + borrow + e - borrow - v.getD k 0 = e by omega, Nat.mul_zero, Nat.add_zero, Nat.mul_add, Nat.mul_add]
  omega
theorem mns_high {u v : List Nat} {k borrow : Nat} {out : List Nat} (h : Mns u v k out borrow) (hv : Lims v) (hlt : u.getD k 0 < v.getD k 0 + borrow) : Mns u v (k + 1) (out ++ [u.getD k 0 + 16777216 - borrow - v.getD k 0]) 1 := by
  obtain ⟨h1, h2, h3, h4⟩ := h
  have hx := hv.getD k
  refine ⟨by simp [h1], h2.snoc (by omega), by omega, ?_⟩
  rw [valL_snoc, h1, take_succ_any, take_succ_any, Nat.pow_succ]
  obtain ⟨e, he⟩ : ∃ e, u.getD k 0 + 16777216 = v.getD k 0 + borrow + e := ⟨u.getD k 0 + 16777216 - (v.getD k 0 + borrow), by omega⟩
  rw [he, show v.getD k 0 + borrow + e - borrow - v.getD k 0 = e by omega, Nat.mul_one]
  generalize 16777216 ^ k = p at *
  have e2 : p * u.getD k 0 + p * 16777216 = p * v.getD k 0 + p * borrow + p * e := by rw [← Nat.mul_add, he, Nat.mul_add, Nat.mul_add]
  omega
theorem mns_end {u v : List Nat} {k borrow : Nat} {out : List Nat} (h : Mns u v k out borrow) (hk : k = u.length) (hv : v.length ≤ u.length) (hle : valL v ≤ valL u) : valL out = valL u - valL v := by
  have he := h.eq
  rw [hk, List.take_length, List.take_of_length_le hv] at he
  have h1 := valL_lt h.lims
  rw [h.len, hk] at h1
  have := h.le
  rcases Nat.lt_or_ge borrow 1 with hb | hb
  · obtain rfl : borrow = 0 := by omega
    omega
  · obtain rfl : borrow = 1 := by omega
    omega
/-- a division: what has been divided from place k on -/
structure Quo (u : List Nat) (b k : Nat) (q : List Nat) (r : Nat) : Prop where
  len : q.length = u.length
  lims : Lims q
  lt : r < b
  eq : valL (u.drop k) = valL (q.drop k) * b + r
theorem quo_zero (u : List Nat) (b : Nat) (hb : 0 < b) : Quo u b u.length (List.replicate u.length 0) 0 := ⟨by simp, (fun x hx => by rw [(List.mem_replicate.1 hx).2]; decide), hb, by simp [valL]⟩
theorem drop_set_self (q : List Nat) (k x : Nat) (h : k < q.length) : (q.set k x).drop k = x :: q.drop (k + 1) := by
  rw [List.drop_eq_getElem_cons (by simpa using h)]
  simp [List.drop_set_of_lt]
theorem quo_step {u q : List Nat} {b k r : Nat} (h : Quo u b (k + 1) q r) (hk : k < u.length) (hu : Lims u) :
    (u.getD k 0 + 16777216 * r) / b < 16777216 ∧ Quo u b k (q.set k ((u.getD k 0 + 16777216 * r) / b)) ((u.getD k 0 + 16777216 * r) % b) := by
  obtain ⟨h1, h2, h3, h4⟩ := h
  have hx := hu.getD k
  have hb : 0 < b := by omega
  have hq : (u.getD k 0 + 16777216 * r) / b < 16777216 := by
    rw [Nat.div_lt_iff_lt_mul hb]
    have : 16777216 * (r + 1) ≤ 16777216 * b := Nat.mul_le_mul_left _ (by omega)
    omega
  refine ⟨hq, by simpa using h1, ?_, Nat.mod_lt _ hb, ?_⟩
  · intro y hy
    rcases List.mem_or_eq_of_mem_set hy with h5 | h5
    · exact h2 y h5
    · omega
  · rw [drop_set_self q k _ (by omega), valL, valL_drop u k hk, h4]
    have := Nat.div_add_mod (u.getD k 0 + 16777216 * r) b
    rw [Nat.mul_comm b] at this
    rw [Nat.add_mul, Nat.mul_assoc 16777216]
    generalize (u.getD k 0 + 16777216 * r) / b = s at *
    generalize (u.getD k 0 + 16777216 * r) % b = t at *
    generalize valL (q.drop (k + 1)) * b = z at *
    omega
theorem quo_end {u q : List Nat} {b r : Nat} (h : Quo u b 0 q r) : valL q = valL u / b ∧ r = valL u % b := by
  have he := h.eq
  rw [List.drop_zero, List.drop_zero] at he
  have hb : 0 < b := by have := h.lt; omega
  rw [he, Nat.mul_comm, Nat.mul_add_div hb, Nat.div_eq_of_lt h.lt, Nat.mul_add_mod, Nat.mod_eq_of_lt h.lt]
  exact ⟨by omega, rfl⟩
theorem rest_cons {x r : Nat} (hx : x < 16777216) : Lims (x :: lim r) ∧ valL (x :: lim r) = x + 16777216 * r := by
  refine ⟨fun y hy => ?_, by rw [valL, valL_lim]⟩
  rcases List.mem_cons.1 hy with h | h
  · omega
  · exact lims_lim r y h
/-- the search for a digit -/
theorem search_no {a b low high mid : Nat} (h1 : low * b ≤ a) (h2 : a < (high + 1) * b) (hm : 0 < mid) (h : ¬ mid * b ≤ a) : low * b ≤ a ∧ a < (mid - 1 + 1) * b := ⟨h1, by rw [Nat.sub_add_cancel hm]; omega⟩
theorem search_end {a b low : Nat} (h1 : low * b ≤ a) (h2 : a < (low + 1) * b) : low = a / b := by
  have hb : 0 < b := by
    rcases Nat.eq_zero_or_pos b with h | h
    · subst h; omega
    · exact h
  symm
  rw [Nat.div_eq_iff hb]
  rw [Nat.add_mul, Nat.one_mul] at h2
  rw [Nat.mul_comm] at h1 h2 ⊢
  omega
/-- the digits of bytes -/
structure Ofs (l : List UInt8) (e : Nat) (out : List Nat) : Prop where
  lims : Lims out
  eq : valL out + 16777216 ^ out.length * valB (l.take e) = valB l
theorem ofs_start (l : List UInt8) : Ofs l l.length [] := ⟨(fun x hx => by cases hx), by simp [valL]⟩
theorem take_split (l : List UInt8) (s e : Nat) (h : s ≤ e) (he : e ≤ l.length) : valB (l.take e) = valB (l.take s) * 256 ^ (e - s) + valB ((l.take e).drop s) := by
  have : l.take e = l.take s ++ (l.take e).drop s := by
    conv => lhs; rw [← List.take_append_drop s (l.take e)]
    rw [List.take_take, Nat.min_eq_left h]
  conv => lhs; rw [this]
  rw [valB_append]
  simp [Nat.min_eq_left he]
theorem ofs_step {l : List UInt8} {e : Nat} {out : List Nat} (h : Ofs l e out) (h0 : 0 < e) (he : e ≤ l.length) : Ofs l (e - 3) (out ++ [valB ((l.take e).drop (e - 3))]) := by
  have hs := take_split l (e - 3) e (by omega) he
  have hb := valB_lt ((l.take e).drop (e - 3))
  have hl : ((l.take e).drop (e - 3)).length = e - (e - 3) := by simp [Nat.min_eq_left he]
  rw [hl] at hb
  have hp : 256 ^ (e - (e - 3)) ≤ 16777216 := by
    have : (256 : Nat) ^ (e - (e - 3)) ≤ 256 ^ 3 := Nat.pow_le_pow_right (by decide) (by omega)
    exact this
  refine ⟨h.lims.snoc (by omega), ?_⟩
  have h2 := h.eq
  rw [valL_snoc, List.length_append, List.length_singleton, Nat.pow_succ, ← h2, hs]
  have h3 : valB (l.take (e - 3)) * 256 ^ (e - (e - 3)) = 16777216 * valB (l.take (e - 3)) := by
    rcases Nat.lt_or_ge e 3 with h4 | h4
    · rw [show e - 3 = 0 by omega, List.take_zero]; simp [valB]
    · rw [show e - (e - 3) = 3 by omega, Nat.mul_comm]
  rw [h3, Nat.mul_add, ← Nat.mul_assoc]
  omega
theorem ofs_end {l : List UInt8} {e : Nat} {out : List Nat} (h : Ofs l e out) (h0 : e = 0) : valL out = valB l := by
  have := h.eq
  subst h0
  simpa [valB] using this
/-- the bytes of digits -/
theorem num_step {l : List Nat} {b : List UInt8} {k : Nat} (h : valB b = valL (l.drop (k + 1))) (hk : k < l.length) (hl : Lims l) :
    valB (b ++ [UInt8.ofNat (l.getD k 0 / 65536 % 256)] ++ [UInt8.ofNat (l.getD k 0 / 256 % 256)] ++ [UInt8.ofNat (l.getD k 0 % 256)]) = valL (l.drop k) := by
  have := hl.getD k
  rw [valB_snoc, valB_snoc, valB_snoc, h, valL_drop l k hk, byte_toNat, byte_toNat, byte_toNat]
  omega
end Go.Proofs.YtoekhpnapnhefaaGreatDoor

namespace Go.Proofs.YtoekhpnapnhefaaGreatDoor
open Go.RowKit Go.Shelf
set_option linter.unusedVariables false
set_option linter.unusedSimpArgs false

/-- how many zeros lie in front -/
def lead : List UInt8 → Nat
  | [] => 0
  | c :: r => if c = 0 then lead r + 1 else 0
theorem lead_le : ∀ l : List UInt8, lead l ≤ l.length
  | [] => Nat.le_refl _
  | c :: r => by
    have := lead_le r
    unfold lead
    split
    · simp; omega
    · omega
def bAt (s : ByteArray) (k : Nat) : Int := (s.data.toList.getD k 0).toNat
theorem bAt_get (s : ByteArray) (n : Nat) (h : n < s.size) : ((s[n]'h).toNat : Int) = bAt s n := by
  unfold bAt
  have : s.data.toList.getD n 0 = s[n]'h := by
    have e : n < s.data.toList.length := by rw [Array.length_toList]; exact h
    rw [List.getD_eq_getElem?_getD, List.getElem?_eq_getElem e, Array.getElem_toList]; rfl
  rw [this]
theorem bAt_range (s : ByteArray) (n : Nat) : 0 ≤ bAt s n ∧ bAt s n ≤ 255 := by
  have := (s.data.toList.getD n 0).toNat_lt
  unfold bAt
  omega
def canonB (s : ByteArray) : ByteArray := s.extract (lead s.data.toList) s.size
def ZerosTo (s : ByteArray) (k : Nat) : Prop := k ≤ s.size ∧ ∀ i, i < k → bAt s i = 0
set_option maxRecDepth 100000 in
theorem rcanon_any (s : ByteArray) (w : World) (hs : s.size ≤ 140737488355328) :
    Calls Tryz.prog 154 #[.string s] w fun e w' => (∃ k, e = .returned (.string (s.extract k s.size)) ∧ ZerosTo s k ∧ (k < s.size → bAt s k ≠ 0)) ∧ w = w' := by
  have hb := bAt_get s
  go_enter Tryz.func154, Tryz.ntmps154
  go_wp2_with fail
  go_loop [3] (fun iv => ∃ k : Nat, iv = .int .i64 (k : Int) ∧ ZerosTo s k) (fun iv => s.size - (intOf iv).toNat)
  case atStart => exact ⟨0, rfl, Nat.zero_le _, fun i h => absurd h (Nat.not_lt_zero _)⟩
  case round =>
    obtain ⟨k, rfl, hz⟩ := hrel
    have hk := hz.1
    have HZ := Lib.hid hz
    clear hz
    by_cases hlt : k < s.size
    · have r0 := bAt_range s k
      by_cases h0 : bAt s k = 0
      · have HN := Lib.hid (show ZerosTo s (k + 1) from ⟨hlt, fun i hi => by
          rcases Nat.lt_or_ge i k with h | h
          · exact HZ.out.2 i h
          · rw [show i = k by omega]; exact h0⟩)
        have b0 : (bAt s k == 0) = true := by rw [h0]; rfl
        go_wp2_with fail
        go_round
        case rel => exact ⟨k + 1, by congr 1 <;> omega, HN.out⟩
        case measure => simp [intOf]; omega
      · have b0 : (bAt s k == 0) = false := by simpa using h0
        have HE := Lib.hid (show k < s.size → bAt s k ≠ 0 from fun _ => h0)
        clear h0
        go_wp2_with fail
        go_ret
        exact ⟨⟨k, rfl, HZ.out, HE.out⟩, rfl⟩
    · obtain rfl : k = s.size := by omega
      go_wp2_with fail
      go_ret
      exact ⟨⟨s.size, by rw [show s.extract s.size s.size = ByteArray.empty by simp]; rfl, HZ.out, fun h => absurd h (Nat.lt_irrefl _)⟩, rfl⟩
theorem lead_of {s : ByteArray} {k : Nat} (h : ZerosTo s k) (he : k < s.size → bAt s k ≠ 0) : k = lead s.data.toList := by
  have gen : ∀ (l : List UInt8) (k : Nat), k ≤ l.length → (∀ i, i < k → l.getD i 0 = 0) → (k < l.length → l.getD k 0 ≠ 0) → k = lead l := by
    intro l
    induction l with
    | nil => intro k h1 _ _; simp at h1; exact h1
    | cons c r ih =>
      intro k h1 h2 h3
      match k with
      | 0 =>
        have : c ≠ 0 := by simpa using h3 (by simp)
        simp [lead, this]
      | k + 1 =>
        have h0 : c = 0 := by simpa using h2 0 (by omega)
        have := ih k (by simpa using h1) (fun i hi => by simpa using h2 (i + 1) (by omega)) (fun hk => by simpa using h3 (by simpa using hk))
        simp [lead, h0, ← this]
  have hl : s.data.toList.length = s.size := Array.length_toList
  refine gen _ _ (by rw [hl]; exact h.1) (fun i hi => ?_) (fun hk => ?_)
  · have := h.2 i hi
    unfold bAt at this
    exact UInt8.toNat_inj.1 (by simpa using this)
  · have := he (by rw [← hl]; exact hk)
    unfold bAt at this
    intro h0
    rw [h0] at this
    exact this rfl
theorem rcanon (s : ByteArray) (w : World) (hs : s.size ≤ 140737488355328) :
    Calls Tryz.prog 154 #[.string s] w fun e w' => e = .returned (.string (canonB s)) ∧ w = w' := by
  refine (rcanon_any s w hs).mono ?_
  rintro e w' ⟨⟨k, rfl, hz, he⟩, rfl⟩
  exact ⟨by rw [lead_of hz he]; rfl, rfl⟩
set_option maxRecDepth 100000 in
theorem rint_any (s : ByteArray) (w : World) (hs : s.size ≤ 140737488355328) (h7 : (canonB s).size ≤ 7) :
    Calls Tryz.prog 156 #[.string s] w fun e w' => e = .returned (.tuple #[.int .i64 (valB (canonB s).data.toList), .bool true]) ∧ w = w' := by
  have CN := Lib.hid (fun W => rcanon s W hs)
  generalize canonB s = t at *
  have hb := bAt_get t
  go_enter Tryz.func156, Tryz.ntmps156
  go_wp2_with fail
  refine (CN.out _).mono ?_
  rintro e w1 ⟨rfl, rfl⟩
  go_wp2_with fail
  go_loop [4, 5] (fun n iv => ∃ k : Nat, k ≤ t.size ∧ n = .int .i64 (valB (t.data.toList.take k)) ∧ iv = .int .i64 (k : Int)) (fun _ iv => t.size - (intOf iv).toNat)
  case atStart => exact ⟨0, Nat.zero_le _, rfl, rfl⟩
  case round =>
    obtain ⟨k, hk, rfl, rfl⟩ := hrel
    by_cases hlt : k < t.size
    · have NX := Lib.hid (valB_take_succ t.data.toList k (by rw [Array.length_toList]; exact hlt))
      have r0 := bAt_range t k
      have EB := Lib.hid (show bAt t k = (t.data.toList.getD k 0).toNat from rfl)
      have hv : valB (t.data.toList.take k) < 281474976710656 := by
        have h1 := valB_lt (t.data.toList.take k)
        have h2 : (t.data.toList.take k).length ≤ 6 := by rw [List.length_take]; omega
        have h3 : (256 : Nat) ^ (t.data.toList.take k).length ≤ 256 ^ 6 := Nat.pow_le_pow_right (by decide) h2
        have h4 : (256 : Nat) ^ 6 = 281474976710656 := by decide
        omega
      generalize valB (t.data.toList.take k) = v at *
      have hv' : (v : Int) < 281474976710656 := by omega
      clear hv
      go_wp2_with fail
      go_round
      case rel => exact ⟨k + 1, hlt, by rw [NX.out]; congr 1; have := EB.out; omega, by congr 1⟩
      case measure => simp [intOf]; omega
    · obtain rfl : k = t.size := by omega
      have E := Lib.hid (show t.data.toList.take t.size = t.data.toList from List.take_of_length_le (by rw [Array.length_toList]; exact Nat.le_refl _))
      rw [E.out]
      go_wp2_with fail
      refine bodyPost_ret (results_tmp2 rfl _ _ _) rfl ⟨rfl, rfl⟩
theorem rsmall_yes (s : ByteArray) (b : Int) (w : World) (hs : s.size ≤ 140737488355328) (hb : b ≤ 7) (h : ((canonB s).size : Int) ≤ b) :
    Calls Tryz.prog 176 #[.string s, .int .i64 b] w fun e w' => e = .returned (.tuple #[.int .i64 (valB (canonB s).data.toList), .bool true]) ∧ w = w' := by
  have CN := Lib.hid (fun W => rcanon s W hs)
  have IN := Lib.hid (fun W => rint_any s W hs (by omega))
  generalize canonB s = t at *
  go_enter Tryz.func176, Tryz.ntmps176
  go_wp2_with fail
  refine (CN.out _).mono ?_
  rintro e w1 ⟨rfl, rfl⟩
  go_wp2_with fail
  refine (IN.out _).mono ?_
  rintro e w1 ⟨rfl, rfl⟩
  go_wp2_with fail
  refine bodyPost_ret (results_tmp2 rfl _ _ _) rfl ⟨rfl, rfl⟩
theorem rsmall_no (s : ByteArray) (b : Int) (w : World) (hs : s.size ≤ 140737488355328) (h : ¬ ((canonB s).size : Int) ≤ b) :
    Calls Tryz.prog 176 #[.string s, .int .i64 b] w fun e w' => e = .returned (.tuple #[.int .i64 0, .bool false]) ∧ w = w' := by
  have CN := Lib.hid (fun W => rcanon s W hs)
  generalize canonB s = t at *
  have h' : b < t.size := by omega
  clear h
  go_enter Tryz.func176, Tryz.ntmps176
  go_wp2_with fail
  refine (CN.out _).mono ?_
  rintro e w1 ⟨rfl, rfl⟩
  go_wp2_with fail
  refine bodyPost_ret (results_tmp2 rfl _ _ _) rfl ⟨rfl, rfl⟩
theorem lead_val : ∀ l : List UInt8, valB (l.drop (lead l)) = valB l ∧ Canon (l.drop (lead l))
  | [] => ⟨rfl, by simp [Canon]⟩
  | c :: r => by
    have ih := lead_val r
    by_cases h : c = 0
    · have e : (c :: r).drop (lead (c :: r)) = r.drop (lead r) := by simp [lead, h]
      rw [e, valB_cons, h]
      exact ⟨by rw [ih.1]; simp, ih.2⟩
    · have e : (c :: r).drop (lead (c :: r)) = c :: r := by simp [lead, h]
      rw [e]
      exact ⟨rfl, by simp [Canon, h]⟩
theorem canonB_list (s : ByteArray) : (canonB s).data.toList = beR (valB s.data.toList) := by
  have e : (canonB s).data.toList = s.data.toList.drop (lead s.data.toList) := by
    unfold canonB
    rw [ByteArray.data_extract, Array.toList_extract, List.extract_eq_take_drop]
    apply List.take_of_length_le
    rw [List.length_drop, Array.length_toList]
    exact Nat.le_refl _
  have h := lead_val s.data.toList
  rw [e, ← h.1, canon_eq h.2]
theorem canonB_val (s : ByteArray) : valB (canonB s).data.toList = valB s.data.toList := by rw [canonB_list, valB_beR]
theorem canonB_size {s : ByteArray} {k : Nat} : (canonB s).size ≤ k ↔ valB s.data.toList < 256 ^ k := by
  rw [beR_len, ← canonB_list]
  show _ ↔ (canonB s).data.toList.length ≤ k
  rw [Array.length_toList]
  rfl
end Go.Proofs.YtoekhpnapnhefaaGreatDoor

namespace Go.Proofs.YtoekhpnapnhefaaGreatDoor
open Go.RowKit Go.Shelf
set_option linter.unusedVariables false
set_option linter.unusedSimpArgs false

set_option maxRecDepth 100000 in
theorem rof_any (n : Int) (w : World) (h0 : 0 < n) :
    Calls Tryz.prog 129 #[.int .i64 n] w fun e w' => e = .returned (.string (canonB ⟨(by8 n).toArray⟩)) ∧ Only (fun _ => False) w w' := by
  go_enter Tryz.func129, Tryz.ntmps129
  go_wp2_with fail
  go_loopw [3, 4] (fun v iv wr => ∃ j : Nat, j ≤ 8 ∧ iv = .int .i64 (56 - 8 * (j : Int)) ∧ Hid (OB 5 w wr v (bcells ((by8 n).take j)))) (fun _ iv _ => (intOf iv + 8).toNat)
  case atStart => exact ⟨0, by omega, rfl, Lib.hid (OB.nil _ _ _ (Only.refl _ _))⟩
  case round =>
    obtain ⟨j, hj, rfl, hO⟩ := hrel
    have hlen : (bcells ((by8 n).take j)).length = j := by rw [bcells_len, List.length_take, by8_len]; omega
    by_cases hlt : j < 8
    · have i1 : (0 : Int) ≤ 56 - 8 * (j : Int) := by omega
      have i2 : (j : Int) ≤ 7 := by omega
      have i7 : (56 - 8 * (j : Int)).toNat = 8 * (7 - j) := by omega
      have NX := Lib.hid (by8_take n j hlt)
      have HL := Lib.hid hlen
      clear hlen
      go_wp2_with (at_builtin; refine wpl_app_ob rfl (.tmp 13) (.tmp 18) 46 rfl _ 1 Tryz.underlying46 infoByte rfl _ (bcells ((by8 n).take j)) rfl (hO.out.alloc _) ⟨wr.heap.size, 0, none⟩ 1 1 [.int .u8 (n / 2 ^ (8 * (7 - j)) % 256)] rfl rfl (one_cell _) (by simp [Value.oneCell']) (by rw [HL.out]; omega) (by rw [HL.out]; omega) ?_; intro A cap w1 m hm hob _ _; have OB1 := Lib.hid hob; clear hob hm)
      have NZ : Hid (OB 5 w w1 (.slice A m cap) (bcells ((by8 n).take (j + 1)))) := Lib.hid (by rw [NX.out, bcells_snoc, by_num]; exact OB1.out)
      clear OB1
      go_roundw
      case rel => exact ⟨j + 1, by omega, by congr 1 <;> omega, NZ⟩
      case measure => simp [intOf]; omega
    · obtain rfl : j = 8 := by omega
      have hO' := hO.out
      rw [List.take_of_length_le (by rw [by8_len]; omega)] at hO'
      obtain ⟨g, cap, sp, rfl, hA, _, _, _⟩ := hO'.at_ (by rw [bcells_len, by8_len]; omega)
      rw [bcells_len, by8_len] at *
      have hcv := run_convert_bytes_back (P := Tryz.prog) wr 46 155 5 ⟨g, 0, none⟩ cap (by8 n) Tryz.underlying46 Tryz.underlying5 Tryz.underlying155 (fun j hj => by rw [Addr.add_lit, Nat.zero_add]; exact hA.cell (by rw [List.getElem?_append_left (by rw [bcells_len]; exact hj)]; exact bcells_get' hj))
      rw [by8_len] at hcv
      have OO := Lib.hid hO'.only
      clear hO hO' hA hlen hlt hj
      obtain ⟨q, hq⟩ : ∃ q, q = (⟨(by8 n).toArray⟩ : ByteArray) := ⟨_, rfl⟩
      rw [← hq] at hcv
      have HQ := Lib.hid hq
      clear hq
      have CN := Lib.hid (fun W => rcanon q W (by rw [HQ.out]; show (by8 n).toArray.size ≤ _; rw [List.size_toArray, by8_len]; omega))
      go_wp2_with fail
      refine (CN.out _).mono ?_
      rintro e w1 ⟨rfl, rfl⟩
      go_wp2_with fail
      go_ret
      exact ⟨by rw [← HQ.out]; rfl, OO.out⟩
end Go.Proofs.YtoekhpnapnhefaaGreatDoor

namespace Go.Proofs.YtoekhpnapnhefaaGreatDoor
open Go.RowKit Go.Shelf
set_option linter.unusedVariables false
set_option linter.unusedSimpArgs false

def nints (l : List Nat) : List Value := l.map fun (x : Nat) => Value.int .i64 (x : Int)
theorem nints_len (l : List Nat) : (nints l).length = l.length := by simp [nints]
theorem nints_cell {l : List Nat} {sp : List Value} {k : Nat} (h : k < l.length) : (nints l ++ sp)[k]? = some (.int .i64 (l.getD k 0 : Nat)) := by
  rw [List.getElem?_append_left (by rw [nints_len]; exact h), nints, List.getElem?_map, List.getElem?_eq_getElem h, List.getD_eq_getElem?_getD, List.getElem?_eq_getElem h]
  rfl
def Tail0 (l : List Nat) (k : Nat) : Prop := k ≤ l.length ∧ ∀ i, k ≤ i → l.getD i 0 = 0
set_option maxRecDepth 100000 in
theorem rtrim_any (l : List Nat) (sp : List Value) (g cap : Nat) (w : World) (hA : At w g 3 (nints l ++ sp)) (hc : l.length ≤ cap) (hm : cap ≤ maxLen) :
    Calls Tryz.prog 178 #[.slice (some ⟨g, 0, none⟩) l.length cap] w fun e w' => (∃ k, e = .returned (.slice (some ⟨g, 0, none⟩) k cap) ∧ Tail0 l k ∧ (0 < k → l.getD (k - 1) 0 ≠ 0)) ∧ w = w' := by
  have HA := Lib.hid hA
  clear hA
  unfold maxLen at hm
  go_enter Tryz.func178, Tryz.ntmps178
  go_wp2_with fail
  go_loop [0] (fun v => ∃ k : Nat, v = .slice (some ⟨g, 0, none⟩) k cap ∧ Tail0 l k) (fun v => match v with | .slice _ k _ => k | _ => 0)
  case atStart => exact ⟨l.length, rfl, Nat.le_refl _, fun i h => by rw [List.getD_eq_getElem?_getD, List.getElem?_eq_none h]; rfl⟩
  case round =>
    obtain ⟨k, rfl, hz⟩ := hrel
    have hk := hz.1
    have HZ := Lib.hid hz
    clear hz
    match k, hk, HZ with
    | 0, hk, HZ =>
      go_wp2_with fail
      go_ret
      exact ⟨⟨0, rfl, HZ.out, fun h => absurd h (Nat.lt_irrefl _)⟩, rfl⟩
    | k + 1, hk, HZ =>
      have c := HA.out.cell (nints_cell (sp := sp) (k := k) (by omega))
      by_cases h0 : l.getD k 0 = 0
      · have HN := Lib.hid (show Tail0 l k from ⟨by omega, fun i hi => by
          rcases Nat.lt_or_ge k i with h | h
          · exact HZ.out.2 i h
          · rw [show i = k by omega]; exact h0⟩)
        rw [h0] at c
        clear h0
        go_wp2_with fail
        go_round
        case rel => exact ⟨k, by congr 1, HN.out⟩
        case measure => simp
      · have HE := Lib.hid (show 0 < k + 1 → l.getD (k + 1 - 1) 0 ≠ 0 from fun _ => h0)
        obtain ⟨x, hx0⟩ : ∃ x, x = l.getD k 0 := ⟨_, rfl⟩
        rw [← hx0] at c h0
        clear hx0
        have hx : ((x : Int) == 0) = false := by simpa using h0
        clear h0
        go_wp2_with fail
        go_ret
        exact ⟨⟨k + 1, rfl, HZ.out, HE.out⟩, rfl⟩
end Go.Proofs.YtoekhpnapnhefaaGreatDoor

namespace Go.Proofs.YtoekhpnapnhefaaGreatDoor
open Go.RowKit Go.Shelf
set_option linter.unusedVariables false
set_option linter.unusedSimpArgs false

/-- digits in a slice -/
def Dg (w : World) (v : Value) (l : List Nat) : Prop := Ow w 3 1 v l.length (nints l)
theorem Dg.only {w w' : World} {v : Value} {l : List Nat} (h : Dg w v l) (o : Only (fun _ => False) w w') : Dg w' v l := Ow.only h o (fun _ _ h => h)
theorem Dg.cell {w : World} {A : Option Addr} {n c : Nat} {l : List Nat} (h : Dg w (.slice A n c) l) {k : Nat} (hk : k < l.length) : ∃ g, A = some ⟨g, 0, none⟩ ∧ w.cell? ⟨g, k, none⟩ = some (.int .i64 (l.getD k 0 : Nat)) := by
  obtain ⟨g, cap, sp, h1, h2, _⟩ := Ow.at_ h (by omega)
  injection h1 with h1 _ _
  exact ⟨g, h1, h2.cell (nints_cell hk)⟩
theorem Dg.len {w : World} {A : Option Addr} {n c : Nat} {l : List Nat} (h : Dg w (.slice A n c) l) : n = l.length := by
  rcases Ow.form h with ⟨h1, h2, _⟩ | ⟨g, cap, sp, h1, _⟩
  · injection h1 with _ h3 _; omega
  · injection h1
theorem Dg.le {w : World} {v : Value} {l : List Nat} (h : Dg w v l) : l.length ≤ 9223372036854775807 := by
  rcases Ow.form h with ⟨_, h2, _⟩ | ⟨g, cap, sp, _, _, h3, h4, _⟩
  · omega
  · unfold maxLen at h4; omega
theorem OB.dg {w0 w : World} {v : Value} {l : List Nat} (h : OB 3 w0 w v (nints l)) : Dg w v l := by
  have := h.own
  rw [nints_len] at this
  exact this
theorem nints_snoc (l : List Nat) (x : Nat) : nints (l ++ [x]) = nints l ++ [.int .i64 (x : Int)] := by simp [nints]
theorem nints_take (l : List Nat) (k : Nat) : nints l = nints (l.take k) ++ nints (l.drop k) := by
  unfold nints; rw [← List.map_append, List.take_append_drop]
theorem tail0_lim {l : List Nat} {k : Nat} (h : Tail0 l k) (he : 0 < k → l.getD (k - 1) 0 ≠ 0) (hl : Lims l) : l.take k = lim (valL l) := by
  have hz : valL (l.drop k) = 0 := by
    have : ∀ m : List Nat, (∀ i, m.getD i 0 = 0) → valL m = 0 := by
      intro m
      induction m with
      | nil => intro _; rfl
      | cons x m ih =>
        intro h
        have h0 : x = 0 := by simpa using h 0
        have := ih fun i => by simpa using h (i + 1)
        rw [valL, h0, this]
    refine this _ fun i => ?_
    have := h.2 (k + i) (by omega)
    rw [List.getD_eq_getElem?_getD] at this ⊢
    rwa [List.getElem?_drop]
  have hv : valL l = valL (l.take k) := by
    conv => lhs; rw [← List.take_append_drop k l]
    rw [valL_append, hz]; simp
  rw [hv, lim_of (hl.take k)]
  intro hne
  have hk : 0 < k := by
    rcases Nat.eq_zero_or_pos k with h0 | h0
    · subst h0; exact absurd (List.take_zero) hne
    · exact h0
  have hlen : (l.take k).length = k := by rw [List.length_take]; have := h.1; omega
  rw [List.getLast_eq_getElem]
  have := he hk
  rw [List.getD_eq_getElem?_getD, List.getElem?_eq_getElem (by have := h.1; omega)] at this
  simpa [hlen] using this
set_option maxRecDepth 100000 in
/-- trim, of whatever slice that was made -/
theorem rtrim_ob (l : List Nat) (A : Option Addr) (c : Nat) (w0 w : World) (hl : Lims l) (h : OB 3 w0 w (.slice A l.length c) (nints l)) :
    Calls Tryz.prog 178 #[.slice A l.length c] w fun e w' => e = .returned (.slice A (lim (valL l)).length c) ∧ OB 3 w0 w (.slice A (lim (valL l)).length c) (nints (lim (valL l))) ∧ w = w' := by
  rcases h.own.form with ⟨h1, h2, h3⟩ | ⟨g, cap, sp, h1, h2, h3, h4, h5⟩
  · have hl0 : l = [] := by
      rw [nints_len] at h2
      exact List.eq_nil_of_length_eq_zero h2
    subst hl0
    injection h1 with h1 _ h6
    subst h1
    subst h6
    rw [show valL [] = 0 from rfl, lim_zero]
    have HO := Lib.hid (OB.nil 3 w0 w h.only)
    clear h hl h2 h3
    go_enter Tryz.func178, Tryz.ntmps178
    go_wp2_with fail
    go_loop [0] (fun v => v = .slice none 0 0) (fun v => 0)
    case atStart => rfl
    case round =>
      subst hrel
      go_wp2_with fail
      go_ret
      exact ⟨rfl, HO.out, rfl⟩
  · injection h1 with h1 h6 h7
    subst h1
    subst h7
    rw [nints_len] at h3
    refine (rtrim_any l sp g c w h2 h3 h4).mono ?_
    rintro e w' ⟨⟨k, rfl, hz, he⟩, rfl⟩
    have e2 := tail0_lim hz he hl
    have hk := hz.1
    rw [← e2, List.length_take, Nat.min_eq_left hk]
    refine ⟨rfl, ⟨?_, h.new, h.only⟩, rfl⟩
    have hn : (nints (l.take k)).length = k := by rw [nints_len, List.length_take]; omega
    rw [hn]
    refine Ow.mk (sp := nints (l.drop k) ++ sp) ?_ (by rw [hn, Nat.mul_one]) (by omega) h4 ?_
    · rw [← List.append_assoc, ← nints_take]; exact h2
    · rw [← List.append_assoc, ← nints_take]; exact h5
set_option maxRecDepth 100000 in
set_option maxHeartbeats 1000000 in
theorem rtimes_any (u : List Nat) (d : Nat) (A : Option Addr) (c : Nat) (w : World) (hu : Lims u) (hul : u.length ≤ 1000000) (hd : d < 16777216) (h : Dg w (.slice A u.length c) u) :
    Calls Tryz.prog 182 #[.slice A u.length c, .int .i64 d] w fun e w' => ∃ A' c', e = .returned (.slice A' (lim (valL u * d)).length c') ∧ OB 3 w w' (.slice A' (lim (valL u * d)).length c') (nints (lim (valL u * d))) := by
  have HU := Lib.hid hu
  have HD := Lib.hid h
  clear hu h
  go_enter Tryz.func182, Tryz.ntmps182
  go_wp2_with fail
  go_loopw [5, 6, 7] (fun o cy iv wr => ∃ (k : Nat) (out : List Nat) (carry : Nat) (B : Option Addr) (cb n : Nat), k ≤ u.length ∧ iv = .int .i64 k ∧ cy = .int .i64 carry ∧ o = .slice B n cb ∧ Hid (n = k) ∧ Hid (Tms u d k out carry) ∧ Hid (OB 3 w wr (.slice B n cb) (nints out))) (fun _ _ iv _ => u.length - (intOf iv).toNat)
  case atStart => exact ⟨0, [], 0, none, 0, 0, by omega, rfl, rfl, rfl, Lib.hid rfl, Lib.hid (tms_zero _ _), Lib.hid (OB.nil _ _ _ (Only.refl _ _))⟩
  case round =>
    obtain ⟨k, out, carry, B, cb, n, hk, rfl, rfl, rfl, HN, HT, HO⟩ := hrel
    by_cases hlt : k < u.length
    · obtain ⟨g, rfl, c0⟩ := (HD.out.only HO.out.only).cell hlt
      have NX := Lib.hid (tms_step HT.out HU.out hd)
      have hx := HU.out.getD k
      have hc := HT.out.lt
      generalize u.getD k 0 = x at *
      obtain ⟨p, hp⟩ : ∃ p, p = x * d := ⟨_, rfl⟩
      have hpl : p ≤ 16777215 * 16777215 := by rw [hp]; exact Nat.mul_le_mul (by omega) (by omega)
      have hpi : (x : Int) * (d : Int) = (p : Int) := by rw [hp]; simp
      rw [← hp] at NX
      have i1 : (k : Int) < (u.length : Int) := by omega
      have i2 : (p : Int) ≤ 281474943156225 := by omega
      have i3 : (carry : Int) ≤ 16777215 := by omega
      clear hp hpl hx hc
      have HL := Lib.hid (show (nints out).length = n by rw [nints_len, HT.out.len, HN.out])
      have hn : n ≤ 1000000 := by have := HN.out; omega
      go_wp2_with (at_builtin; refine wpl_app_ob rfl (.tmp 23) (.tmp 26) 22 rfl _ 8 Tryz.underlying22 infoInt rfl _ (nints out) rfl (HO.out.alloc _) ⟨wr.heap.size, 0, none⟩ 1 1 [_] rfl rfl (one_cell _) (by simp [Value.oneCell']) (by rw [HL.out]; omega) (by rw [HL.out]; omega) ?_; intro A2 cap w1 m hm hob _ _; have OB1 := Lib.hid hob; have HM := Lib.hid hm; clear hob hm)
      have NZ : Hid (OB 3 w w1 (.slice A2 m cap) (nints (out ++ [(p + carry) % 16777216]))) := Lib.hid (by
        rw [nints_snoc, show (((p + carry) % 16777216 : Nat) : Int) = ((p : Int) + (carry : Int)) % 16777216 by omega]; exact OB1.out)
      have HM2 := Lib.hid (show m = k + 1 by have := HM.out; have := HL.out; have := HN.out; omega)
      clear OB1 HM c0
      go_roundw
      case rel => exact ⟨k + 1, _, (p + carry) / 16777216, A2, cap, m, by omega, by go_num, by congr 1, rfl, HM2, NX, NZ⟩
      case measure => simp [intOf]; omega
    · obtain rfl : k = u.length := by omega
      obtain ⟨e1, e2⟩ := tms_end HT.out rfl
      have HT2 := Lib.hid e1
      have HV := Lib.hid e2
      clear e1 e2
      have HL := Lib.hid (show (nints out).length = n by rw [nints_len, HT.out.len, HN.out])
      have hn : n ≤ 1000000 := by have := HN.out; omega
      go_wp2_with (at_builtin; refine wpl_app_ob rfl (.tmp 30) (.tmp 32) 22 rfl _ 8 Tryz.underlying22 infoInt rfl _ (nints out) rfl (HO.out.alloc _) ⟨wr.heap.size, 0, none⟩ 1 1 [_] rfl rfl (one_cell _) (by simp [Value.oneCell']) (by rw [HL.out]; omega) (by rw [HL.out]; omega) ?_; intro A2 cap w1 m hm hob _ _; have OB1 := Lib.hid hob; have HM := Lib.hid hm; clear hob hm)
      have NZ : Hid (OB 3 w w1 (.slice A2 m cap) (nints (out ++ [carry]))) := Lib.hid (by rw [nints_snoc]; exact OB1.out)
      have HM2 := Lib.hid (show m = (out ++ [carry]).length by have := HM.out; have := HL.out; rw [List.length_append, HT.out.len]; have := HN.out; simp only [List.length_singleton]; omega)
      clear OB1 HM
      have TR := Lib.hid (rtrim_ob (out ++ [carry]) A2 cap w w1 HT2.out (by rw [← HM2.out]; exact NZ.out))
      rw [← HM2.out, HV.out] at TR
      refine (TR.out).mono ?_
      rintro e w2 ⟨rfl, hob, rfl⟩
      have NB := Lib.hid hob
      clear hob
      go_wp2_with fail
      go_ret
      exact ⟨A2, cap, rfl, NB.out⟩
set_option maxRecDepth 100000 in
set_option maxHeartbeats 2000000 in
theorem rminus_any (u v : List Nat) (A B : Option Addr) (c d : Nat) (w : World) (hu : Lims u) (hv : Lims v) (hul : u.length ≤ 1000000) (hvl : v.length ≤ u.length) (hle : valL v ≤ valL u) (h : Dg w (.slice A u.length c) u) (h2 : Dg w (.slice B v.length d) v) :
    Calls Tryz.prog 181 #[.slice A u.length c, .slice B v.length d] w fun e w' => ∃ A' c', e = .returned (.slice A' (lim (valL u - valL v)).length c') ∧ OB 3 w w' (.slice A' (lim (valL u - valL v)).length c') (nints (lim (valL u - valL v))) := by
  have HU := Lib.hid hu
  have HV := Lib.hid hv
  have HD := Lib.hid h
  have HE := Lib.hid h2
  have HLE := Lib.hid hle
  clear hu hv h h2 hle
  go_enter Tryz.func181, Tryz.ntmps181
  go_wp2_with fail
  go_loopw [5, 6, 7, 8] (fun o bo iv dv wr => ∃ (k : Nat) (out : List Nat) (borrow : Nat) (C : Option Addr) (cb n : Nat), k ≤ u.length ∧ iv = .int .i64 k ∧ bo = .int .i64 borrow ∧ o = .slice C n cb ∧ Hid (n = k) ∧ Hid (Mns u v k out borrow) ∧ Hid (OB 3 w wr (.slice C n cb) (nints out))) (fun _ _ iv _ _ => u.length - (intOf iv).toNat)
  case atStart => exact ⟨0, [], 0, none, 0, 0, by omega, rfl, rfl, rfl, Lib.hid rfl, Lib.hid (mns_zero _ _), Lib.hid (OB.nil _ _ _ (Only.refl _ _))⟩
  case round =>
    obtain ⟨k, out, borrow, C, cb, n, hk, rfl, rfl, rfl, HN, HT, HO⟩ := hrel
    by_cases hlt : k < u.length
    · obtain ⟨g, rfl, c0⟩ := (HD.out.only HO.out.only).cell hlt
      have hx := HU.out.getD k
      have hy := HV.out.getD k
      have hb := HT.out.le
      have LO := Lib.hid (mns_low (v := v) HT.out HU.out)
      have HI := Lib.hid (mns_high (u := u) HT.out HV.out)
      have i1 : (k : Int) < (u.length : Int) := by omega
      have HL := Lib.hid (show (nints out).length = n by rw [nints_len, HT.out.len, HN.out])
      have hn : n ≤ 1000000 := by have := HN.out; omega
      generalize u.getD k 0 = x at *
      by_cases hkv : k < v.length
      · obtain ⟨g2, rfl, c1⟩ := (HE.out.only HO.out.only).cell hkv
        generalize v.getD k 0 = y at *
        have j1 : (k : Int) < (v.length : Int) := by omega
        by_cases hge : y + borrow ≤ x
        · have NX := Lib.hid (LO.out hge)
          have t1 : ¬ ((x : Int) - (borrow : Int) - (y : Int) < 0) := by omega
          go_wp2_with (at_builtin; refine wpl_app_ob rfl (.tmp 35) (.tmp 37) 22 rfl _ 8 Tryz.underlying22 infoInt rfl _ (nints out) rfl (HO.out.alloc _) ⟨wr.heap.size, 0, none⟩ 1 1 [_] rfl rfl (one_cell _) (by simp [Value.oneCell']) (by rw [HL.out]; omega) (by rw [HL.out]; omega) ?_; intro A2 cap w1 m hm hob _ _; have OB1 := Lib.hid hob; have HM := Lib.hid hm; clear hob hm)
          have NZ : Hid (OB 3 w w1 (.slice A2 m cap) (nints (out ++ [x - borrow - y]))) := Lib.hid (by
            rw [nints_snoc, show ((x - borrow - y : Nat) : Int) = (x : Int) - (borrow : Int) - (y : Int) by omega]; exact OB1.out)
          have HM2 := Lib.hid (show m = k + 1 by have := HM.out; have := HL.out; have := HN.out; omega)
          clear OB1 HM c0 c1
          go_roundw
          case rel => exact ⟨k + 1, _, 0, A2, cap, m, by omega, by go_num, rfl, rfl, HM2, NX, NZ⟩
          case measure => simp [intOf]; omega
        · have NX := Lib.hid (HI.out (by omega))
          have t1 : (x : Int) - (borrow : Int) - (y : Int) < 0 := by omega
          go_wp2_with (at_builtin; refine wpl_app_ob rfl (.tmp 35) (.tmp 37) 22 rfl _ 8 Tryz.underlying22 infoInt rfl _ (nints out) rfl (HO.out.alloc _) ⟨wr.heap.size, 0, none⟩ 1 1 [_] rfl rfl (one_cell _) (by simp [Value.oneCell']) (by rw [HL.out]; omega) (by rw [HL.out]; omega) ?_; intro A2 cap w1 m hm hob _ _; have OB1 := Lib.hid hob; have HM := Lib.hid hm; clear hob hm)
          have NZ : Hid (OB 3 w w1 (.slice A2 m cap) (nints (out ++ [x + 16777216 - borrow - y]))) := Lib.hid (by
            rw [nints_snoc, show ((x + 16777216 - borrow - y : Nat) : Int) = (x : Int) - (borrow : Int) - (y : Int) + 16777216 by omega]; exact OB1.out)
          have HM2 := Lib.hid (show m = k + 1 by have := HM.out; have := HL.out; have := HN.out; omega)
          clear OB1 HM c0 c1
          go_roundw
          case rel => exact ⟨k + 1, _, 1, A2, cap, m, by omega, by go_num, rfl, rfl, HM2, NX, NZ⟩
          case measure => simp [intOf]; omega
      · have hy0 : v.getD k 0 = 0 := by rw [List.getD_eq_getElem?_getD, List.getElem?_eq_none (by omega)]; rfl
        rw [hy0] at LO HI
        have j1 : ¬ ((k : Int) < (v.length : Int)) := by omega
        by_cases hge : 0 + borrow ≤ x
        · have NX := Lib.hid (LO.out hge)
          have t1 : ¬ ((x : Int) - (borrow : Int) < 0) := by omega
          go_wp2_with (at_builtin; refine wpl_app_ob rfl (.tmp 35) (.tmp 37) 22 rfl _ 8 Tryz.underlying22 infoInt rfl _ (nints out) rfl (HO.out.alloc _) ⟨wr.heap.size, 0, none⟩ 1 1 [_] rfl rfl (one_cell _) (by simp [Value.oneCell']) (by rw [HL.out]; omega) (by rw [HL.out]; omega) ?_; intro A2 cap w1 m hm hob _ _; have OB1 := Lib.hid hob; have HM := Lib.hid hm; clear hob hm)
          have NZ : Hid (OB 3 w w1 (.slice A2 m cap) (nints (out ++ [x - borrow - 0]))) := Lib.hid (by
            rw [nints_snoc, show ((x - borrow - 0 : Nat) : Int) = (x : Int) - (borrow : Int) by omega]; exact OB1.out)
          have HM2 := Lib.hid (show m = k + 1 by have := HM.out; have := HL.out; have := HN.out; omega)
          clear OB1 HM c0
          go_roundw
          case rel => exact ⟨k + 1, _, 0, A2, cap, m, by omega, by go_num, rfl, rfl, HM2, NX, NZ⟩
          case measure => simp [intOf]; omega
        · have NX := Lib.hid (HI.out (by omega))
          have t1 : (x : Int) - (borrow : Int) < 0 := by omega
          go_wp2_with (at_builtin; refine wpl_app_ob rfl (.tmp 35) (.tmp 37) 22 rfl _ 8 Tryz.underlying22 infoInt rfl _ (nints out) rfl (HO.out.alloc _) ⟨wr.heap.size, 0, none⟩ 1 1 [_] rfl rfl (one_cell _) (by simp [Value.oneCell']) (by rw [HL.out]; omega) (by rw [HL.out]; omega) ?_; intro A2 cap w1 m hm hob _ _; have OB1 := Lib.hid hob; have HM := Lib.hid hm; clear hob hm)
          have NZ : Hid (OB 3 w w1 (.slice A2 m cap) (nints (out ++ [x + 16777216 - borrow - 0]))) := Lib.hid (by
            rw [nints_snoc, show ((x + 16777216 - borrow - 0 : Nat) : Int) = (x : Int) - (borrow : Int) + 16777216 by omega]; exact OB1.out)
          have HM2 := Lib.hid (show m = k + 1 by have := HM.out; have := HL.out; have := HN.out; omega)
          clear OB1 HM c0
          go_roundw
          case rel => exact ⟨k + 1, _, 1, A2, cap, m, by omega, by go_num, rfl, rfl, HM2, NX, NZ⟩
          case measure => simp [intOf]; omega
    · obtain rfl : k = u.length := by omega
      have HVA := Lib.hid (mns_end HT.out rfl hvl HLE.out)
      have HLM := Lib.hid HT.out.lims
      have HM2 := Lib.hid (show n = out.length by rw [HT.out.len, HN.out])
      have TR := Lib.hid (rtrim_ob out C cb w wr HLM.out (by rw [← HM2.out]; exact HO.out))
      rw [← HM2.out, HVA.out] at TR
      go_wp2_with fail
      refine (TR.out).mono ?_
      rintro e w2 ⟨rfl, hob, rfl⟩
      have NB := Lib.hid hob
      clear hob
      go_wp2_with fail
      go_ret
      exact ⟨C, cb, rfl, NB.out⟩
end Go.Proofs.YtoekhpnapnhefaaGreatDoor

namespace Go.Proofs.YtoekhpnapnhefaaGreatDoor
open Go.RowKit Go.Shelf
set_option linter.unusedVariables false
set_option linter.unusedSimpArgs false

theorem lim_inj {a b : Nat} (h : lim a = lim b) : a = b := by rw [← valL_lim a, h, valL_lim]
/-- what cmp answers says how two numbers lie -/
def Ord (r : Int) (a b : Nat) : Prop := (r ≤ 0 ↔ a ≤ b) ∧ (0 ≤ r ↔ b ≤ a)
theorem ord_len {a b : Nat} (h : (lim a).length ≠ (lim b).length) : Ord (((lim a).length : Int) - ((lim b).length : Int)) a b := by
  rcases Nat.lt_or_ge (lim a).length (lim b).length with h1 | h1
  · have := lim_len_lt h1
    constructor <;> constructor <;> intro _ <;> omega
  · have := lim_len_lt (a := b) (b := a) (by omega)
    constructor <;> constructor <;> intro _ <;> omega
theorem ord_digit {a b : Nat} (k : Nat) (h1 : k < (lim a).length) (h2 : k < (lim b).length) (hd : (lim a).drop (k + 1) = (lim b).drop (k + 1)) (hne : (lim a).getD k 0 ≠ (lim b).getD k 0) :
    Ord ((((lim a).getD k 0 : Nat) : Int) - (((lim b).getD k 0 : Nat) : Int)) a b := by
  rcases Nat.lt_or_ge ((lim a).getD k 0) ((lim b).getD k 0) with h | h
  · have := cmp_at (lims_lim a) (lims_lim b) k h1 h2 hd h
    rw [valL_lim, valL_lim] at this
    constructor <;> constructor <;> intro _ <;> omega
  · have := cmp_at (lims_lim b) (lims_lim a) k h2 h1 hd.symm (by omega)
    rw [valL_lim, valL_lim] at this
    constructor <;> constructor <;> intro _ <;> omega
theorem ord_same {a b : Nat} (h : (lim a).drop 0 = (lim b).drop 0) : Ord 0 a b := by
  have := lim_inj (by simpa using h)
  subst this
  exact ⟨by simp, by simp⟩
set_option maxRecDepth 100000 in
set_option maxHeartbeats 1000000 in
theorem rcmp_any (a b : Nat) (A B : Option Addr) (c d : Nat) (w : World) (h : Dg w (.slice A (lim a).length c) (lim a)) (h2 : Dg w (.slice B (lim b).length d) (lim b)) :
    Calls Tryz.prog 179 #[.slice A (lim a).length c, .slice B (lim b).length d] w fun e w' => (∃ r, e = .returned (.int .i64 r) ∧ Ord r a b) ∧ Only (fun _ => False) w w' := by
  have HD := Lib.hid h
  have HE := Lib.hid h2
  have OL := Lib.hid (@ord_len a b)
  have OD := Lib.hid (@ord_digit a b)
  have OS := Lib.hid (@ord_same a b)
  have LA := Lib.hid (lims_lim a)
  have LB := Lib.hid (lims_lim b)
  clear h h2
  have STP := Lib.hid (@drop_eq_step (lim a) (lim b))
  generalize lim a = u at *
  generalize lim b = v at *
  by_cases hl : u.length = v.length
  · have hm : v.length ≤ 9223372036854775807 := HE.out.le
    rw [hl] at HD ⊢
    have HLL := Lib.hid hl
    clear hl
    go_enter Tryz.func179, Tryz.ntmps179
    go_wp2_with fail
    go_loopw [4, 5] (fun _ iv wr => ∃ (j : Nat), j ≤ v.length ∧ iv = .int .i64 ((j : Int) - 1) ∧ Hid (u.drop j = v.drop j) ∧ Hid (Only (fun _ => False) w wr)) (fun _ iv _ => (intOf iv + 1).toNat)
    case atStart => exact ⟨v.length, by omega, rfl, Lib.hid (by rw [List.drop_of_length_le (by rw [HLL.out]; exact Nat.le_refl _), List.drop_of_length_le (Nat.le_refl _)]), Lib.hid (Only.refl _ _)⟩
    case round =>
      obtain ⟨j, hj, rfl, hE, hO⟩ := hrel
      match j, hj, hE with
      | 0, hj, hE =>
        go_wp2_with fail
        go_ret
        exact ⟨⟨0, rfl, OS.out hE.out⟩, hO.out⟩
      | i + 1, hj, hE =>
        have hi2 : i < v.length := by omega
        have hi : i < u.length := by rw [HLL.out]; exact hi2
        obtain ⟨g, rfl, d0⟩ := (HD.out.only hO.out).cell hi
        obtain ⟨g2, rfl, d1⟩ := (HE.out.only hO.out).cell hi2
        have NX := Lib.hid (STP.out i hi hi2 hE.out)
        have DX := Lib.hid (OD.out i hi hi2 hE.out)
        have hx := LA.out.getD i
        have hy := LB.out.getD i
        generalize u.getD i 0 = x at *
        generalize v.getD i 0 = y at *
        have e1 : ((i + 1 : Nat) : Int) - 1 = (i : Int) := by omega
        rw [e1]
        have i2 : (i : Int) < (v.length : Int) := by omega
        clear hi
        obtain ⟨X, F, FM⟩ := fam wr
        have NE := FM.ne
        have c0 := FM.cell (d0)
        have c1 := FM.cell (d1)
        clear d0 d1
        by_cases hxy : x = y
        · subst hxy
          have NY := Lib.hid (NX.out rfl)
          go_wp2_with fail
          refine FM.region (by kernel_rfl) (by kernel_rfl) ?_
          repeat (first | go_big_quiet_step (fail) | quiet_step (fail))
          refine wpQuiet_nil ?_
          intro z
          go_wp2_with fail
          go_roundw
          case rel => exact ⟨i, by omega, rfl, NY, Lib.hid (hO.out.trans (FM.own z) (fun _ _ h => h))⟩
          case measure => simp [intOf]
        · have b1 : ((x : Int) == (y : Int)) = false := by rw [beq_eq_false_iff_ne]; omega
          have DY := Lib.hid (DX.out hxy)
          go_wp2_with fail
          refine FM.region (by kernel_rfl) (by kernel_rfl) ?_
          repeat (first | go_big_quiet_step (fail) | quiet_step (fail))
          refine wpQuiet_nil ?_
          intro z
          have O2 := Lib.hid (hO.out.trans (FM.own z) (fun _ _ h => h))
          have d0 := c0 z
          have d1 := c1 z
          clear c0 c1
          generalize F z = w2 at *
          clear FM NE
          obtain ⟨X, F, FM⟩ := fam w2
          have NE := FM.ne
          have c0 := FM.cell (d0)
          have c1 := FM.cell (d1)
          clear d0 d1
          go_wp2_with fail
          refine FM.region (by kernel_rfl) (by kernel_rfl) ?_
          repeat (first | go_big_quiet_step (fail) | quiet_step (fail))
          refine wpQuiet_nil ?_
          intro z
          go_wp2_with fail
          go_ret
          exact ⟨⟨_, rfl, DY.out⟩, O2.out.trans (FM.own z) (fun _ _ h => h)⟩
  · have b1 : ((u.length : Int) == (v.length : Int)) = false := by rw [beq_eq_false_iff_ne]; omega
    have hm := HD.out.le
    have hm2 := HE.out.le
    have OY := Lib.hid (OL.out hl)
    go_enter Tryz.func179, Tryz.ntmps179
    go_wp2_with fail
    go_ret
    exact ⟨⟨_, rfl, OY.out⟩, Only.refl _ _⟩
set_option maxRecDepth 100000 in
set_option maxHeartbeats 1000000 in
theorem rdigit_any (a b : Nat) (A B : Option Addr) (c d : Nat) (w : World) (hb : 0 < b) (hab : a < 16777216 * b) (hlb : (lim b).length ≤ 1000000) (h : Dg w (.slice A (lim a).length c) (lim a)) (h2 : Dg w (.slice B (lim b).length d) (lim b)) :
    Calls Tryz.prog 180 #[.slice A (lim a).length c, .slice B (lim b).length d] w fun e w' => e = .returned (.int .i64 (a / b : Nat)) ∧ Only (fun _ => False) w w' := by
  have HD := Lib.hid h
  have HE := Lib.hid h2
  have HAB := Lib.hid hab
  clear h h2 hab
  go_enter Tryz.func180, Tryz.ntmps180
  go_wp2_with fail
  go_loopw [5, 6, 7] (fun lv hv mv wr => ∃ (low high : Nat), lv = .int .i64 low ∧ hv = .int .i64 high ∧ low ≤ high ∧ high ≤ 16777215 ∧ Hid (low * b ≤ a) ∧ Hid (a < (high + 1) * b) ∧ Hid (Only (fun _ => False) w wr)) (fun lv hv _ _ => (intOf hv - intOf lv).toNat)
  case atStart => exact ⟨0, 16777215, rfl, rfl, by omega, by omega, Lib.hid (by omega), HAB, Lib.hid (Only.refl _ _)⟩
  case round =>
    obtain ⟨low, high, rfl, rfl, hlh, hh, hL, hH, hO⟩ := hrel
    by_cases hlt : low < high
    · obtain ⟨mid, hmid⟩ : ∃ mid, mid = (low + high + 1) / 2 := ⟨_, rfl⟩
      have m1 : low < mid := by omega
      have m2 : mid ≤ high := by omega
      have em : ((low : Int) + (high : Int) + 1) / 2 = (mid : Int) := by omega
      have TM := Lib.hid (rtimes_any (lim b) mid B d wr (lims_lim b) hlb (by omega) (HE.out.only hO.out))
      rw [valL_lim] at TM
      have CM := Lib.hid (fun A' c' w' (hob : OB 3 wr w' (.slice A' (lim (b * mid)).length c') (nints (lim (b * mid)))) => rcmp_any (b * mid) a A' A c' c w' hob.dg ((HD.out.only hO.out).only hob.only))
      have YES := Lib.hid (show b * mid ≤ a → mid * b ≤ a from fun h => by rw [Nat.mul_comm]; exact h)
      have NO := Lib.hid (show ¬ b * mid ≤ a → low * b ≤ a ∧ a < (mid - 1 + 1) * b from fun h => search_no hL.out hH.out (by omega) (by rw [Nat.mul_comm]; exact h))
      have i1 : (low : Int) < (high : Int) := by omega
      have i2 : (high : Int) ≤ 16777215 := by omega
      clear hmid
      go_wp2_with fail
      refine (TM.out).mono ?_
      rintro e w1 ⟨A', c', rfl, hob⟩
      have CX := Lib.hid (CM.out A' c' w1 hob)
      have O1 := Lib.hid (hO.out.trans hob.only (fun _ _ h => h))
      clear hob
      go_wp2_with fail
      refine (CX.out).mono ?_
      rintro e w2 ⟨⟨r, rfl, hr⟩, oo⟩
      have O2 := Lib.hid (O1.out.trans oo (fun _ _ h => h))
      have hr1 := hr.1
      clear oo hr
      by_cases hle : b * mid ≤ a
      · have r0 : r ≤ 0 := hr1.2 hle
        have Y := Lib.hid (YES.out hle)
        clear hr1 hle
        go_wp2_with fail
        go_roundw
        case rel => exact ⟨mid, high, rfl, rfl, m2, hh, Y, hH, O2⟩
        case measure => simp [intOf]; omega
      · have r0 : ¬ r ≤ 0 := fun h => hle (hr1.1 h)
        have Y := Lib.hid (NO.out hle)
        clear hr1 hle
        go_wp2_with fail
        go_roundw
        case rel => exact ⟨low, mid - 1, rfl, by congr 1; omega, by omega, by omega, Lib.hid Y.out.1, Lib.hid Y.out.2, O2⟩
        case measure => simp [intOf]; omega
    · obtain rfl : low = high := by omega
      have E := Lib.hid (search_end hL.out hH.out)
      clear hlt
      go_wp2_with fail
      go_ret
      exact ⟨by rw [← E.out]; rfl, hO.out⟩
end Go.Proofs.YtoekhpnapnhefaaGreatDoor

namespace Go.Proofs.YtoekhpnapnhefaaGreatDoor
open Go.RowKit Go.Shelf
set_option linter.unusedVariables false
set_option linter.unusedSimpArgs false

theorem ofs_trim {l : List UInt8} (hc : Canon l) {e : Nat} (h0 : 0 < e) (he : e ≤ 3) (hel : e ≤ l.length) : valB ((l.take e).drop (e - 3)) ≠ 0 := by
  rw [show e - 3 = 0 by omega, List.drop_zero]
  match l, hc, hel with
  | [], _, hel => simp at hel; omega
  | c :: r, hc, hel =>
    obtain ⟨e, rfl⟩ : ∃ f, e = f + 1 := ⟨e - 1, by omega⟩
    rw [List.take_succ_cons, valB_cons]
    have h1 : c ≠ 0 := by
      unfold Canon at hc
      simpa using hc
    have h2 : 0 < c.toNat := by
      rcases Nat.eq_zero_or_pos c.toNat with h | h
      · exact absurd (UInt8.toNat_inj.1 (by rw [h]; rfl)) h1
      · exact h
    have := Nat.mul_pos h2 (Nat.pow_pos (n := (r.take e).length) (show 0 < 256 by decide))
    omega
theorem take_drop_snoc (l : List UInt8) (s k : Nat) (h : s ≤ k) (hk : k < l.length) : (l.take (k + 1)).drop s = (l.take k).drop s ++ [l.getD k 0] := by
  have h2 : l.getD k 0 = l[k] := by simp [List.getD_eq_getElem?_getD, hk]
  rw [List.take_succ_eq_append_getElem hk, List.drop_append_of_le_length (by simp; omega), h2]
theorem trimmed_snoc {l : List Nat} {x : Nat} (h : x ≠ 0) : Trimmed (l ++ [x]) := fun hne => by simpa using h
set_option maxRecDepth 100000 in
set_option maxHeartbeats 1000000 in
theorem rofd_any (s : ByteArray) (w : World) (hs : s.size ≤ 1000000) :
    Calls Tryz.prog 177 #[.string s] w fun e w' => ∃ A' c', e = .returned (.slice A' (lim (valB s.data.toList)).length c') ∧ OB 3 w w' (.slice A' (lim (valB s.data.toList)).length c') (nints (lim (valB s.data.toList))) := by
  have CN := Lib.hid (fun W => rcanon s W (by omega))
  have CL := Lib.hid (canonB_list s)
  have CV := canonB_val s
  rw [← CV]
  have hc : Canon (canonB s).data.toList := by rw [CL.out]; exact beR_head _
  have hsz : (canonB s).size ≤ 1000000 := by
    unfold canonB
    rw [ByteArray.size_extract]
    omega
  generalize canonB s = t at *
  have HC := Lib.hid hc
  clear CL CV hc hs
  have hb := bAt_get t
  have HL := Lib.hid (show t.data.toList.length = t.size from Array.length_toList)
  go_enter Tryz.func177, Tryz.ntmps177
  go_wp2_with fail
  refine (CN.out _).mono ?_
  rintro e w1 ⟨rfl, rfl⟩
  go_wp2_with fail
  go_loopw [3, 4, 5, 6] (fun o ev dv kv wr => ∃ (E : Int) (out : List Nat) (B : Option Addr) (cb n : Nat), E ≤ t.size ∧ -3 ≤ E ∧ ev = .int .i64 E ∧ o = .slice B n cb ∧ Hid (n = out.length) ∧ n ≤ 1000000 - E.toNat ∧ Hid (Ofs t.data.toList E.toNat out) ∧ Hid (E.toNat = 0 → Trimmed out) ∧ Hid (OB 3 w wr (.slice B n cb) (nints out))) (fun _ ev _ _ _ => (intOf ev).toNat)
  case atStart => exact ⟨(t.size : Int), [], none, 0, 0, by omega, by omega, rfl, rfl, Lib.hid rfl, by omega, Lib.hid (by have := ofs_start t.data.toList; rw [HL.out] at this; exact this), Lib.hid (fun _ h => absurd rfl h), Lib.hid (OB.nil _ _ _ (Only.refl _ _))⟩
  case round =>
    obtain ⟨E, out, B, cb, n, hE, hE3, rfl, rfl, HN, hn, HO, HT, HB⟩ := hrel
    by_cases hlt : 0 < E
    · obtain ⟨e, rfl⟩ := Int.eq_ofNat_of_zero_le (Int.le_of_lt hlt)
      rw [Int.toNat_natCast] at HO HT hn
      have NX := Lib.hid (ofs_step HO.out (by omega) (by rw [HL.out]; omega))
      have NT := Lib.hid (show ((e : Int) - 3).toNat = 0 → Trimmed (out ++ [valB ((t.data.toList.take e).drop (e - 3))]) from fun h => trimmed_snoc (ofs_trim HC.out (by omega) (by omega) (by rw [HL.out]; omega)))
      obtain ⟨s0, hs0⟩ : ∃ s0, s0 = e - 3 := ⟨_, rfl⟩
      rw [← hs0] at NX NT
      have m1 : max ((e : Int) - 3) 0 = (s0 : Int) := by omega
      have m2 : s0 ≤ e := by omega
      have m3 : e ≤ s0 + 3 := by omega
      have HLN := Lib.hid (show (nints out).length = n by rw [nints_len, HN.out])
      go_wp2_with fail
      go_loop [5, 6] (fun dv kv => ∃ k : Nat, s0 ≤ k ∧ k ≤ e ∧ kv = .int .i64 k ∧ dv = .int .i64 (valB ((t.data.toList.take k).drop s0))) (fun _ kv => e - (intOf kv).toNat)
      case atStart => exact ⟨s0, Nat.le_refl _, m2, by rw [hs0], by rw [List.drop_of_length_le (by rw [List.length_take]; omega)]; rfl⟩
      case round =>
        obtain ⟨k, hk1, hk2, rfl, rfl⟩ := hrel
        by_cases hke : k < e
        · have r0 := bAt_range t k
          have EB := Lib.hid (show bAt t k = (t.data.toList.getD k 0).toNat from rfl)
          have NV := Lib.hid (show valB ((t.data.toList.take (k + 1)).drop s0) = 256 * valB ((t.data.toList.take k).drop s0) + (t.data.toList.getD k 0).toNat by rw [take_drop_snoc _ _ _ hk1 (by rw [HL.out]; omega), valB_snoc])
          have hv : valB ((t.data.toList.take k).drop s0) < 65536 := by
            have h1 := valB_lt ((t.data.toList.take k).drop s0)
            have h2 : ((t.data.toList.take k).drop s0).length ≤ 2 := by rw [List.length_drop, List.length_take]; omega
            have h3 : (256 : Nat) ^ ((t.data.toList.take k).drop s0).length ≤ 256 ^ 2 := Nat.pow_le_pow_right (by decide) h2
            omega
          have hkt : k < t.size := by omega
          generalize valB ((t.data.toList.take k).drop s0) = v at *
          have i1 : (k : Int) < (e : Int) := by omega
          go_wp2_with fail
          go_round
          case rel => exact ⟨k + 1, by omega, by omega, by go_num, by rw [NV.out]; congr 1; have := EB.out; omega⟩
          case measure => simp [intOf]; omega
        · obtain rfl : k = e := by omega
          generalize valB ((t.data.toList.take k).drop s0) = v at *
          go_wp2_with (at_builtin; refine wpl_app_ob rfl (.tmp 30) (.tmp 32) 22 rfl _ 8 Tryz.underlying22 infoInt rfl _ (nints out) rfl (HB.out.alloc _) ⟨wr.heap.size, 0, none⟩ 1 1 [_] rfl rfl (one_cell _) (by simp [Value.oneCell']) (by rw [HLN.out]; omega) (by rw [HLN.out]; omega) ?_; intro A2 cap w1 m hm hob _ _; have OB1 := Lib.hid hob; have HM := Lib.hid hm; clear hob hm)
          have NZ : Hid (OB 3 w w1 (.slice A2 m cap) (nints (out ++ [v]))) := Lib.hid (by rw [nints_snoc]; exact OB1.out)
          have HM2 := Lib.hid (show m = (out ++ [v]).length by have := HM.out; have := HLN.out; have := HN.out; rw [List.length_append, List.length_singleton]; omega)
          have HM3 := Lib.hid (show m ≤ 1000000 - ((k : Int) - 3).toNat by have := HM.out; have := HLN.out; have := HN.out; omega)
          have NX2 : Hid (Ofs t.data.toList ((k : Int) - 3).toNat (out ++ [v])) := Lib.hid (by rw [show ((k : Int) - 3).toNat = s0 by omega]; exact NX.out)
          clear OB1 HM m1
          go_roundw
          case rel => exact ⟨(k : Int) - 3, _, A2, cap, m, by omega, by omega, rfl, rfl, HM2, HM3.out, NX2, NT, NZ⟩
          case measure => simp [intOf]; omega
    · have h0 : E.toNat = 0 := by omega
      have EQ := Lib.hid (show out = lim (valB t.data.toList) by
        rw [← ofs_end HO.out h0]; exact (lim_of HO.out.lims (HT.out h0)).symm)
      clear h0
      go_wp2_with fail
      go_ret
      rw [← EQ.out, ← HN.out]
      exact ⟨B, cb, rfl, HB.out⟩
end Go.Proofs.YtoekhpnapnhefaaGreatDoor

namespace Go.Proofs.YtoekhpnapnhefaaGreatDoor
open Go.RowKit Go.Shelf
set_option linter.unusedVariables false
set_option linter.unusedSimpArgs false

theorem by_numN (n : Nat) : ((UInt8.ofNat (n % 256)).toNat : Int) = ((n % 256 : Nat) : Int) := by rw [byte_toNat]
theorem three_cells {w : World} {t : TypeId} (a b c : Value) : ∀ j u, [a, b, c][j]? = some u → (w.alloc (.cells #[a, b, c] t)).cell? ((⟨w.heap.size, 0, none⟩ : Addr).add j) = some u := fun j u hj => At.news' (At.new w t [a, b, c]) j u hj
set_option maxRecDepth 100000 in
set_option maxHeartbeats 1000000 in
theorem rnumb_any (l : List Nat) (A : Option Addr) (c : Nat) (w : World) (hl : Lims l) (hn : l.length ≤ 1000000) (h : Dg w (.slice A l.length c) l) :
    Calls Tryz.prog 183 #[.slice A l.length c] w fun e w' => e = .returned (.string ⟨(beR (valL l)).toArray⟩) ∧ Only (fun _ => False) w w' := by
  have HD := Lib.hid h
  have HL := Lib.hid hl
  clear h hl
  go_enter Tryz.func183, Tryz.ntmps183
  go_wp2_with fail
  go_loopw [3, 4] (fun bv iv wr => ∃ (j : Nat) (bs : List UInt8) (B : Option Addr) (cb n : Nat), j ≤ l.length ∧ iv = .int .i64 ((j : Int) - 1) ∧ bv = .slice B n cb ∧ Hid (n = bs.length) ∧ n ≤ 3 * (l.length - j) ∧ Hid (valB bs = valL (l.drop j)) ∧ Hid (OB 5 w wr (.slice B n cb) (bcells bs))) (fun _ iv _ => (intOf iv + 1).toNat)
  case atStart => exact ⟨l.length, [], none, 0, 0, Nat.le_refl _, by rfl, rfl, Lib.hid rfl, by omega, Lib.hid (by rw [List.drop_of_length_le (Nat.le_refl _)]; rfl), Lib.hid (OB.nil _ _ _ (Only.refl _ _))⟩
  case round =>
    obtain ⟨j, bs, B, cb, n, hj, rfl, rfl, HN, hn3, HV, HB⟩ := hrel
    match j, hj, hn3, HV with
    | 0, hj, hn3, HV =>
      have HVV := HV.out
      rw [List.drop_zero] at HVV
      rcases HB.out.own.form with ⟨h1, h2, h3⟩ | ⟨g, cap, sp, h1, h2, h3, h4, h5⟩
      · injection h1 with h1 h6 h7
        subst h1 h6 h7
        have hbs : bs = [] := by
          rw [bcells_len] at h2
          exact List.eq_nil_of_length_eq_zero h2
        have HR := Lib.hid (show ByteArray.mk (beR (valL l)).toArray = ⟨#[]⟩ by rw [← HVV, hbs]; simp [valB, beR_zero])
        have HO := Lib.hid HB.out.only
        have CN := Lib.hid (fun W => rcanon ⟨#[]⟩ W (by decide))
        rw [show canonB ⟨#[]⟩ = ⟨#[]⟩ by decide] at CN
        have hcv : (convert 46 155 (.slice none 0 0)).run Tryz.prog wr = .ok (.string ⟨#[]⟩) wr := run_convert_bytes_nil wr _ _ Tryz.underlying46 Tryz.underlying5 0 0 _ Tryz.underlying155
        clear h2 h3 hn3 hbs HVV
        go_wp2_with fail
        refine (CN.out _).mono ?_
        rintro e w1 ⟨rfl, rfl⟩
        go_wp2_with fail
        go_ret
        exact ⟨by rw [HR.out]; rfl, HO.out⟩
      · injection h1 with h1 h6 h7
        subst h1 h7
        rw [bcells_len] at h6
        subst h6
        have hcv := run_convert_bytes_back (P := Tryz.prog) wr 46 155 5 ⟨g, 0, none⟩ cb bs Tryz.underlying46 Tryz.underlying5 Tryz.underlying155 (fun j hj => by rw [Addr.add_lit, Nat.zero_add]; exact h2.cell (by rw [List.getElem?_append_left (by rw [bcells_len]; exact hj)]; exact bcells_get' hj))
        have HO := Lib.hid HB.out.only
        obtain ⟨q, hq⟩ : ∃ q, q = (⟨bs.toArray⟩ : ByteArray) := ⟨_, rfl⟩
        rw [← hq] at hcv
        have CN := Lib.hid (fun W => rcanon q W (by rw [hq]; show bs.toArray.size ≤ _; rw [List.size_toArray]; omega))
        have HR := Lib.hid (show ByteArray.mk (beR (valL l)).toArray = canonB q by
          rw [← HVV]
          apply ByteArray.ext
          apply Array.toList_inj.1
          rw [canonB_list, hq])
        clear hq HVV h2 h3 h4 h5
        go_wp2_with fail
        refine (CN.out _).mono ?_
        rintro e w1 ⟨rfl, rfl⟩
        go_wp2_with fail
        go_ret
        exact ⟨by rw [HR.out]; rfl, HO.out⟩
    | i + 1, hj, hn3, HV =>
      have hi : i < l.length := by omega
      obtain ⟨g, rfl, d0⟩ := (HD.out.only HB.out.only).cell hi
      have NX := Lib.hid (num_step HV.out hi HL.out)
      have hx := HL.out.getD i
      generalize l.getD i 0 = x at *
      have e1 : ((i + 1 : Nat) : Int) - 1 = (i : Int) := by omega
      rw [e1]
      have i2 : (i : Int) < (l.length : Int) := by omega
      have i3 : (x : Int) < 16777216 := by omega
      have HLN := Lib.hid (show (bcells bs).length = n by rw [bcells_len, HN.out])
      clear hx
      have D1 := Lib.hid (fun o => ((Only.refl (fun _ => False) wr).alloc o).drew.cell d0 (fun h => h))
      have D2 := Lib.hid (fun o w1 (oo : Only (fun k => (Value.slice B n cb).ownBlock = some k) ((wr.alloc o).drew) w1) => oo.cell (D1.out o) (fun hs => by
        have hb := HB.out.own.ne_ow (g := g) (HD.out.only HB.out.only) (by decide) rfl
        exact hb hs))
      go_wp2_with fail
      go_region_held3 (fun W => W.cell? ⟨g, i, none⟩ = some (.int .i64 x)) ((first | exact d0 | exact D1.out _ | assumption)) (first | (refine step_app_ob rfl (.tmp 12) (.tmp 30) 46 rfl _ 1 Tryz.underlying46 infoByte rfl _ (bcells bs) rfl (HB.out.alloc _).drew ⟨wr.heap.size, 0, none⟩ 3 3 [_, _, _] rfl rfl (three_cells _ _ _) (by simp [Value.oneCell']) (by rw [HLN.out]; omega) (by rw [HLN.out]; omega) ?_; intro A2 cap w1 m hm hob oo _; have d3 := D2.out _ _ oo; have OB1 := Lib.hid hob; have HM := Lib.hid hm; clear hob hm oo))
      go_wp2_with fail
      have NZ : Hid (OB 5 w w1 (.slice A2 m cap) (bcells (bs ++ [UInt8.ofNat (x / 65536 % 256)] ++ [UInt8.ofNat (x / 256 % 256)] ++ [UInt8.ofNat (x % 256)]))) := Lib.hid (by
        have e3 : bcells (bs ++ [UInt8.ofNat (x / 65536 % 256)] ++ [UInt8.ofNat (x / 256 % 256)] ++ [UInt8.ofNat (x % 256)]) = bcells bs ++ [.int .u8 (IntKind.u8.wrap ((x : Int) / 65536)), .int .u8 (IntKind.u8.wrap ((x : Int) / 256)), .int .u8 (IntKind.u8.wrap (x : Int))] := by
          unfold bcells
          simp only [List.map_append, List.map_cons, List.map_nil, List.append_assoc, List.cons_append, List.nil_append, byte_toNat, IntKind.wrap_u8]
          rfl
        rw [e3]; exact OB1.out)
      have HM2 := Lib.hid (show m = (bs ++ [UInt8.ofNat (x / 65536 % 256)] ++ [UInt8.ofNat (x / 256 % 256)] ++ [UInt8.ofNat (x % 256)]).length by have := HM.out; have := HLN.out; have := HN.out; simp only [List.length_append, List.length_singleton]; omega)
      have HM3 := Lib.hid (show m ≤ 3 * (l.length - i) by have := HM.out; have := HLN.out; omega)
      clear OB1 HM D1 D2 d0
      go_roundw
      case rel => exact ⟨i, _, A2, cap, m, by omega, rfl, rfl, HM2, HM3.out, NX, NZ⟩
      case measure => simp [intOf]
end Go.Proofs.YtoekhpnapnhefaaGreatDoor

namespace Go.Proofs.YtoekhpnapnhefaaGreatDoor
open Go.RowKit Go.Shelf
set_option linter.unusedVariables false
set_option linter.unusedSimpArgs false

section
variable {P : Program} {w : World} {ops : Array Oper} {rest : List Oper} {o : Oper} {a : Act} {Q : Exit → Act → World → Prop}
/-- make of n numbers -/
theorem wpl_make (hgd : o.guard = none) (T t : TypeId) (x y : Operand) (ho : o.op = .makeSlice T x y) (z : Value) (hT : P.underlying T = some (.slice t))
    (hinfo : (P.info? t).map (fun i => (i.zero, i.size, i.bytes)) = some (some z, 1, 8)) (hz1 : z.cells = #[z]) (n : Nat) (hx : a.eval x = .int .i64 n) (hy : a.eval y = .int .i64 n) (hn : n ≤ 16777216)
    (h : ∀ w', At w' w.heap.size t (List.replicate n z) → Only (fun _ => False) w w' → w'.heap.size = w.heap.size + 1 → wpList P ops Q rest (a.put o.dst (.slice (some ⟨w.heap.size, 0, none⟩) n n)) w') :
    wpList P ops Q (o :: rest) a w := by
  obtain ⟨i, hi, hz, hsz, hby⟩ := info_parts hinfo
  refine wpList_plain hgd fun _ hK => ?_
  have hr := run_make (P := P) w T t i z hT hi hz .i64 .i64 (n : Int) (n : Int) (by omega) (Int.le_refl _) (by rw [hby]; omega) (by omega)
  unfold Oper.wp execOp
  simp only [ho, hx, hy, Sem.run_bind, Sem.run_pure, Result.andThen_ok, hr]
  rw [hsz, hz1, Nat.mul_one, Int.toNat_natCast]
  refine hK _ _ (h _ ?_ ((Only.refl _ w).alloc _) (by simp))
  have e : madeCells #[z] n = (List.replicate n z).toArray := by
    apply Array.toList_inj.1
    rw [toList_madeCells_one]
  rw [e]
  exact At.new w t _
end
/-! ### the bytes of a small number -/
theorem valB_by8 (N : Nat) (h : N < 18446744073709551616) : valB (by8 (N : Int)) = N := by
  have st : ∀ j, j ≤ 8 → valB ((by8 (N : Int)).take j) = N / 2 ^ (8 * (8 - j)) := by
    intro j
    induction j with
    | zero =>
      intro _
      rw [List.take_zero, Nat.div_eq_of_lt]
      · rfl
      · exact h
    | succ j ih =>
      intro hj
      rw [by8_take _ j (by omega), valB_snoc, ih (by omega)]
      have e1 : 8 * (8 - j) = 8 * (7 - j) + 8 := by omega
      have e2 : 8 * (8 - (j + 1)) = 8 * (7 - j) := by omega
      rw [e1, e2, Nat.pow_add, ← Nat.div_div_eq_div_mul]
      have e3 : ((N : Int) / 2 ^ (8 * (7 - j)) % 256).toNat = (N / 2 ^ (8 * (7 - j))) % 256 := by
        have : ((N : Int) / 2 ^ (8 * (7 - j)) % 256) = ((N / 2 ^ (8 * (7 - j)) % 256 : Nat) : Int) := by simp
        rw [this, Int.toNat_natCast]
      rw [e3, byte_toNat]
      generalize N / 2 ^ (8 * (7 - j)) = m
      omega
  have := st 8 (Nat.le_refl _)
  rw [List.take_of_length_le (by rw [by8_len]; exact Nat.le_refl _)] at this
  rw [this]
  simp
/-- the bytes of a number, none of the first ones 0, as a string -/
def beS (n : Nat) : ByteArray := ⟨(beR n).toArray⟩
theorem beS_list (n : Nat) : (beS n).data.toList = beR n := rfl
theorem beS_val (n : Nat) : valB (beS n).data.toList = n := by rw [beS_list, valB_beR]
theorem canon_beS (s : ByteArray) : canonB s = beS (valB s.data.toList) := by
  apply ByteArray.ext
  apply Array.toList_inj.1
  rw [canonB_list]; rfl
theorem canon_beS_self (n : Nat) : canonB (beS n) = beS n := by rw [canon_beS, beS_val]
theorem beS_size {n k : Nat} : (beS n).size ≤ k ↔ n < 256 ^ k := by
  rw [beR_len]
  show (beR n).toArray.size ≤ k ↔ _
  rw [List.size_toArray]
theorem beS_zero : beS 0 = ⟨#[]⟩ := by unfold beS; rw [beR_zero]
set_option maxRecDepth 100000 in
theorem rof_zero (w : World) :
    Calls Tryz.prog 129 #[.int .i64 0] w fun e w' => e = .returned (.string ⟨#[]⟩) ∧ Only (fun _ => False) w w' := by
  have CN := Lib.hid (fun W => rcanon ⟨#[]⟩ W (by decide))
  rw [show canonB ⟨#[]⟩ = ⟨#[]⟩ by decide] at CN
  have hcv : ∀ w, (convert 46 155 (.slice none 0 0)).run Tryz.prog w = .ok (.string ⟨#[]⟩) w := fun w => run_convert_bytes_nil w _ _ Tryz.underlying46 Tryz.underlying5 0 0 _ Tryz.underlying155
  go_enter Tryz.func129, Tryz.ntmps129
  go_wp2_with fail
  go_loop [3, 4] (fun v iv => v = .slice none 0 0 ∧ iv = .int .i64 56) (fun _ iv => 0)
  case atStart => exact ⟨rfl, rfl⟩
  case round =>
    obtain ⟨rfl, rfl⟩ := hrel
    go_wp2_with fail
    refine (CN.out _).mono ?_
    rintro e w1 ⟨rfl, rfl⟩
    go_wp2_with fail
    go_ret
    exact ⟨rfl, Only.refl _ _⟩
theorem rofS_any (n : Nat) (w : World) (h : n ≤ 9223372036854775807) :
    Calls Tryz.prog 129 #[.int .i64 n] w fun e w' => e = .returned (.string (beS n)) ∧ Only (fun _ => False) w w' := by
  rcases Nat.eq_zero_or_pos n with h0 | h0
  · subst h0; rw [beS_zero]; exact rof_zero w
  · refine (rof_any n w (by omega)).mono ?_
    rintro e w' ⟨rfl, o⟩
    refine ⟨?_, o⟩
    rw [canon_beS]
    show _ = Ending.returned (Value.string (beS n))
    rw [show valB (ByteArray.mk (by8 (n : Int)).toArray).data.toList = n from valB_by8 n (by omega)]
end Go.Proofs.YtoekhpnapnhefaaGreatDoor

namespace Go.Proofs.YtoekhpnapnhefaaGreatDoor
open Go.RowKit Go.Shelf
set_option linter.unusedVariables false
set_option linter.unusedSimpArgs false

theorem Dg.far {w w' : World} {v : Value} {l : List Nat} {S : Nat → Prop} (h : Dg w v l) (o : Only S w w') (hS : ∀ k, v.ownBlock = some k → ¬ S k) : Dg w' v l := Ow.only h o hS
theorem Dg.lt {w : World} {v : Value} {l : List Nat} (h : Dg w v l) : ∀ k, v.ownBlock = some k → k < w.heap.size := Ow.lt h
/-- the state of a long division -/
structure Ql (w wr : World) (gq : Nat) (a b k : Nat) (q : List Nat) (r : Nat) (u v rs : Value) : Prop where
  quo : Quo (lim a) b k q r
  zero : ∀ i, i < k → q.getD i 0 = 0
  cells : At wr gq 3 (nints q)
  new : w.heap.size ≤ gq
  rest : OB 3 w wr rs (nints (lim r))
  far : ∀ j, rs.ownBlock = some j → gq < j
  du : Dg wr u (lim a)
  dv : Dg wr v (lim b)
  fu : ∀ j, u.ownBlock = some j → j ≠ gq
  fv : ∀ j, v.ownBlock = some j → j ≠ gq
theorem Ql.own {w wr : World} {gq a b k : Nat} {q : List Nat} {r : Nat} {u v rest : Value} (h : Ql w wr gq a b k q r u v rest) : Only (fun _ => False) w wr := h.rest.only
theorem OB.litW {t : TypeId} {w W : World} (h : Only (fun _ => False) w W) (xs : List Value) (hm : xs.length ≤ maxLen) : OB t w (W.alloc (.cells xs.toArray t)) (.slice (some ⟨W.heap.size, 0, none⟩) xs.length xs.length) xs := by
  have := OB.lit W t xs hm
  exact ⟨this.own, fun k hk => Nat.le_trans h.size (this.new k hk), h.alloc _⟩
theorem lim_len_mono {a b : Nat} (h : a ≤ b) : (lim a).length ≤ (lim b).length := by
  rcases Nat.lt_or_ge (lim b).length (lim a).length with h1 | h1
  · have := lim_len_lt h1; omega
  · exact h1
/-- one more step, the quotient's digit being known -/
theorem Ql.next {w wr wr' : World} {gq a b k : Nat} {q : List Nat} {r : Nat} {u v rs rs' : Value} (h : Ql w wr gq a b (k + 1) q r u v rs) (hk : k < (lim a).length)
    (hc : At wr' gq 3 (nints (q.set k (((lim a).getD k 0 + 16777216 * r) / b)))) (ho : Only (· = gq) wr wr') (hr : OB 3 w wr' rs' (nints (lim (((lim a).getD k 0 + 16777216 * r) % b)))) (hf : ∀ j, rs'.ownBlock = some j → gq < j) :
    Ql w wr' gq a b k (q.set k (((lim a).getD k 0 + 16777216 * r) / b)) (((lim a).getD k 0 + 16777216 * r) % b) u v rs' :=
  ⟨(quo_step h.quo hk (lims_lim a)).2, fun i hi => by
    have := h.zero i (by omega)
    rw [List.getD_eq_getElem?_getD, List.getElem?_set_ne (by omega), ← List.getD_eq_getElem?_getD]; exact this, hc, h.new, hr, hf, h.du.far ho (fun j hj he => h.fu j hj he), h.dv.far ho (fun j hj he => h.fv j hj he), h.fu, h.fv⟩
theorem own_slice (A : Option Addr) (n c n' c' : Nat) : (Value.slice A n c).ownBlock = (Value.slice A n' c').ownBlock := by cases A <;> rfl
theorem nints_set (q : List Nat) (k x : Nat) : nints (q.set k x) = (nints q).set k (.int .i64 (x : Int)) := by simp [nints, List.map_set]
theorem set_same {q : List Nat} {k : Nat} (h : q.getD k 0 = 0) (hk : k < q.length) : q.set k 0 = q := by
  rw [List.getD_eq_getElem?_getD, List.getElem?_eq_getElem hk] at h
  conv => rhs; rw [← List.set_getElem_self hk]
  congr 1
  exact h.symm
set_option maxRecDepth 100000 in
set_option maxHeartbeats 1000000 in
theorem rquo_short (s t : ByteArray) (a b : Nat) (w : World) (hs : s.size ≤ 1000000) (ht : t.size ≤ 1000000) (ha : valB s.data.toList = a) (hb : valB t.data.toList = b) (h0 : 0 < b) (h7 : b < 72057594037927936) (ha7 : a < 72057594037927936) :
    Calls Tryz.prog 155 #[.string s, .string t] w fun e w' => e = .returned (.tuple #[.string (beS (a / b)), .string (beS (a % b)), .bool true]) ∧ Only (fun _ => False) w w' := by
  have CN := Lib.hid (fun W => rcanon t W (by omega))
  rw [canon_beS, hb] at CN
  have hbz : (beS b).size ≤ 7 := beS_size.2 h7
  have hb0 : (beS b).size ≠ 0 := fun h => by
    have : b < 256 ^ 0 := beS_size.1 (by omega)
    rw [Nat.pow_zero] at this
    omega
  have SA := Lib.hid (fun W => rsmall_yes s 7 W (by omega) (by omega) (by rw [canon_beS, ha]; have : (beS a).size ≤ 7 := beS_size.2 ha7; omega))
  rw [canon_beS, ha, beS_val] at SA
  have SB := Lib.hid (fun W => rsmall_yes (beS b) 7 W (by omega) (by omega) (by rw [canon_beS_self]; omega))
  rw [canon_beS_self, beS_val] at SB
  have QA := Lib.hid (fun W => rofS_any (a / b) W (by have := Nat.div_le_self a b; omega))
  have QB := Lib.hid (fun W => rofS_any (a % b) W (by have := Nat.mod_lt a h0; omega))
  obtain ⟨q, hq⟩ : ∃ q, q = a / b := ⟨_, rfl⟩
  obtain ⟨r, hr⟩ : ∃ r, r = a % b := ⟨_, rfl⟩
  have e1 : (a : Int) / (b : Int) = (q : Int) := by rw [hq]; simp
  have e2 : (a : Int) % (b : Int) = (r : Int) := by rw [hr]; simp
  have l1 : q ≤ a := by rw [hq]; exact Nat.div_le_self a b
  have l2 : r < b := by rw [hr]; exact Nat.mod_lt a h0
  rw [← hq] at QA ⊢
  rw [← hr] at QB ⊢
  have i1 : (q : Int) < 72057594037927936 := by omega
  clear hq hr l1 l2
  generalize beS b = tb at *
  have b1 : ((tb.size : Int) == 0) = false := by rw [beq_eq_false_iff_ne]; omega
  have b2 : ((b : Int) == 0) = false := by rw [beq_eq_false_iff_ne]; omega
  have b3 : (a : Int) < 72057594037927936 := by omega
  have b4 : (b : Int) < 72057594037927936 := by omega
  have b5 : (b : Int) ≠ 0 := by omega
  clear hs ht ha hb hbz hb0 ha7 h7
  go_enter Tryz.func155, Tryz.ntmps155
  go_wp2_with fail
  refine (CN.out _).mono ?_
  rintro e ws1 ⟨rfl, rfl⟩
  go_wp2_with fail
  refine (SA.out _).mono ?_
  rintro e ws2 ⟨rfl, rfl⟩
  go_wp2_with fail
  refine (SB.out _).mono ?_
  rintro e ws3 ⟨rfl, rfl⟩
  go_wp2_with fail
  obtain ⟨X, F, FM⟩ := fam w
  have NE := FM.ne
  refine FM.region (by kernel_rfl) (by kernel_rfl) ?_
  repeat (first | go_big_quiet_step ((first | (go_at_call 129; with_reducible exact FM.call (QA.out _)) | (go_at_call 129; with_reducible exact FM.call (QB.out _)))) | quiet_step (fail))
  refine wpQuiet_nil ?_
  intro x
  go_wp2_with fail
  go_ret3
  exact ⟨rfl, FM.own x⟩
set_option maxRecDepth 100000 in
set_option maxHeartbeats 4000000 in
theorem rquo_long (s t : ByteArray) (a b : Nat) (w : World) (hs : s.size ≤ 1000000) (ht : t.size ≤ 1000000) (ha : valB s.data.toList = a) (hb : valB t.data.toList = b) (h0 : 0 < b) (h7 : b < 72057594037927936) (ha7 : ¬ a < 72057594037927936) (hla : (lim a).length ≤ 1000000) :
    Calls Tryz.prog 155 #[.string s, .string t] w fun e w' => e = .returned (.tuple #[.string (beS (a / b)), .string (beS (a % b)), .bool true]) ∧ Only (fun _ => False) w w' := by
  have CN := Lib.hid (fun W => rcanon t W (by omega))
  rw [canon_beS, hb] at CN
  have hbz : (beS b).size ≤ 7 := beS_size.2 h7
  have hb0 : (beS b).size ≠ 0 := fun h => by
    have : b < 256 ^ 0 := beS_size.1 (by omega)
    rw [Nat.pow_zero] at this
    omega
  have SA := Lib.hid (fun W => rsmall_no s 7 W (by omega) (by rw [canon_beS, ha]; have : ¬ (beS a).size ≤ 7 := fun h => ha7 (beS_size.1 h); omega))
  have SB := Lib.hid (fun W => rsmall_yes (beS b) 7 W (by omega) (by omega) (by rw [canon_beS_self]; omega))
  rw [canon_beS_self, beS_val] at SB
  have UA := Lib.hid (fun W => rofd_any s W hs)
  rw [ha] at UA
  have UB := Lib.hid (fun W => rofd_any (beS b) W (by omega))
  rw [beS_val] at UB
  have HLB := Lib.hid (show (lim b).length ≤ 1000000 from by
    have : (lim b).length ≤ 3 := lim_len.1 (by omega)
    omega)
  have HLB3 := Lib.hid (show (lim b).length ≤ 3 from lim_len.1 (by omega))
  generalize beS b = tb at *
  have b1 : ((tb.size : Int) == 0) = false := by rw [beq_eq_false_iff_ne]; omega
  clear hs ht ha hb hbz hb0 ha7 h7
  go_enter Tryz.func155, Tryz.ntmps155
  go_wp2_with fail
  refine (CN.out _).mono ?_
  rintro e ws4 ⟨rfl, rfl⟩
  go_wp2_with fail
  refine (SA.out _).mono ?_
  rintro e ws5 ⟨rfl, rfl⟩
  go_wp2_with fail
  refine (SB.out _).mono ?_
  rintro e ws6 ⟨rfl, rfl⟩
  go_wp2_with fail
  refine (UA.out _).mono ?_
  rintro e w1 ⟨U, cu, rfl, hu⟩
  have HU := Lib.hid hu
  clear hu
  go_wp2_with fail
  refine (UB.out _).mono ?_
  rintro e w2 ⟨V, cv, rfl, hv⟩
  have HV := Lib.hid hv
  have O2 := Lib.hid (HU.out.only.trans hv.only (fun _ _ h => h))
  have HU2 := Lib.hid (HU.out.dg.only hv.only)
  clear hv
  obtain ⟨m, hm⟩ : ∃ m, m = (lim a).length := ⟨_, rfl⟩
  obtain ⟨mv, hmv⟩ : ∃ mv, mv = (lim b).length := ⟨_, rfl⟩
  rw [← hm] at HU2 HU hla ⊢
  rw [← hmv] at HV HLB ⊢
  have HM := Lib.hid hm
  have HMV := Lib.hid hmv
  clear hm hmv
  go_wp2_with (with_reducible refine wpl_make rfl 22 3 (.tmp 48) (.tmp 48) rfl _ Tryz.underlying22 infoInt rfl m rfl rfl (by omega) ?_; intro w3 h3 o3 z3; have H3 := Lib.hid h3; have O3 := Lib.hid o3; have Z3 := Lib.hid z3; clear h3 o3 z3)
  have Q0 := Lib.hid (show Ql w w3 w2.heap.size a b m (List.replicate m 0) 0 (.slice U m cu) (.slice V mv cv) (.slice none 0 0) from
    ⟨by rw [HM.out]; exact quo_zero (lim a) b h0, fun i hi => by simp [List.getD_eq_getElem?_getD, List.getElem?_replicate, hi], by
      have := H3.out
      unfold nints
      rw [List.map_replicate]; exact this, O2.out.size, by rw [lim_zero]; exact OB.nil _ _ _ (O2.out.trans O3.out (fun _ _ h => h)), fun j h => by simp [Value.ownBlock] at h, HU2.out.only O3.out, HV.out.dg.only O3.out,
      fun j hj => by have := HU2.out.lt j hj; omega, fun j hj => by have := HV.out.dg.lt j hj; omega⟩)
  generalize w2.heap.size = gq at *
  have HMB := Lib.hid (show m ≤ 1000000 from hla)
  clear H3 O3 Z3 HU HU2 O2 HV
  go_wp2_with fail
  go_loopw [14, 15] (fun rv iv wr => ∃ (k : Nat) (q : List Nat) (r : Nat) (R : Option Addr) (cr n : Nat), k ≤ m ∧ iv = .int .i64 ((k : Int) - 1) ∧ rv = .slice R n cr ∧ Hid (n = (lim r).length) ∧ Hid (Ql w wr gq a b k q r (.slice U m cu) (.slice V mv cv) (.slice R n cr))) (fun _ iv _ => (intOf iv + 1).toNat)
  case atStart => exact ⟨m, List.replicate m 0, 0, none, 0, 0, Nat.le_refl _, rfl, rfl, Lib.hid (by rw [lim_zero]; rfl), Q0⟩
  case round =>
    obtain ⟨k, q, r, R, cr, n, hk, rfl, rfl, HN, HQ⟩ := hrel
    match k, hk, HQ with
    | 0, hk, HQ =>
      have e0 := quo_end HQ.out.quo
      rw [valL_lim] at e0
      have HE := Lib.hid e0
      clear e0
      have hql : q.length = m := by rw [HQ.out.quo.len, HM.out]
      have DQ : Dg wr (.slice (some ⟨gq, 0, none⟩) q.length q.length) q := by
        have := HQ.out.cells
        exact Ow.mk (sp := []) (by rw [List.append_nil]; exact this) (by rw [nints_len, Nat.mul_one]) (Nat.le_refl _) (by unfold maxLen; omega) (by rw [List.append_nil, nints_len, Nat.mul_one])
      have NQ := Lib.hid (rnumb_any q (some ⟨gq, 0, none⟩) q.length wr HQ.out.quo.lims (by omega) DQ)
      rw [hql] at NQ
      have NR := Lib.hid (fun W (o : Only (fun _ => False) wr W) => rnumb_any (lim r) R cr W (lims_lim r) (by
        have := HQ.out.quo.lt
        have h3 : (lim r).length ≤ (lim b).length := by
          rcases Nat.lt_or_ge (lim b).length (lim r).length with h | h
          · have := lim_len_lt h; omega
          · exact h
        have := HMV.out
        have := HLB.out
        omega) (by have := HQ.out.rest.dg.only o; rw [HN.out] at this; exact this))
      rw [← HN.out, valL_lim] at NR
      rw [HE.out.1] at NQ
      rw [HE.out.2] at NR
      have O := Lib.hid HQ.out.own
      clear DQ hql
      go_wp2_with fail
      refine (NQ.out).mono ?_
      rintro e w4 ⟨rfl, o4⟩
      have O4 := Lib.hid (O.out.trans o4 (fun _ _ h => h))
      go_wp2_with fail
      refine (NR.out _ o4).mono ?_
      rintro e w5 ⟨rfl, o5⟩
      have O5 := Lib.hid (O4.out.trans o5 (fun _ _ h => h))
      clear o4 o5
      go_wp2_with fail
      go_ret3
      exact ⟨rfl, O5.out⟩
    | i + 1, hk, HQ =>
      have hi : i < (lim a).length := by rw [← HM.out]; omega
      obtain ⟨gu, rfl, c0⟩ := HQ.out.du.cell hi
      have NX := Lib.hid (fun wr' rs' => @Ql.next w wr wr' gq a b i q r _ _ _ rs' HQ.out hi)
      have QS := Lib.hid (quo_step HQ.out.quo hi (lims_lim a)).1
      have RC := Lib.hid (rest_cons (r := r) ((lims_lim a).getD i))
      have hx := (lims_lim a).getD i
      generalize (lim a).getD i 0 = x at *
      obtain ⟨R', hR'⟩ : ∃ R', R' = x + 16777216 * r := ⟨_, rfl⟩
      rw [← hR'] at NX QS RC
      have HRB := Lib.hid (show R' < 16777216 * b from (Nat.div_lt_iff_lt_mul h0).1 QS.out)
      have e1 : ((i + 1 : Nat) : Int) - 1 = (i : Int) := by omega
      rw [e1]
      have i2 : (i : Int) < (m : Int) := by omega
      have HLR := Lib.hid (show (lim r).length ≤ 1000000 from by
        have := lim_len_mono (Nat.le_of_lt HQ.out.quo.lt)
        have := HMV.out
        have := HLB.out
        omega)
      clear hR' hi
      have L0 := Lib.hid (OB.litW (t := 3) HQ.out.own (nints [x]) (by unfold maxLen nints; simp))
      go_wp2_with (at_builtin; refine wpl_app_ob2 rfl (.tmp 61) (.tmp 62) 22 rfl _ 8 Tryz.underlying22 infoInt rfl _ (nints [x]) rfl L0.out _ (nints (lim r)) rfl (HQ.out.rest.alloc _).own (by simp [nints, Value.oneCell']) (by rw [nints_len, nints_len]; have := HLR.out; simp; omega) (by rw [nints_len, nints_len]; have := HLR.out; simp; omega) ?_; intro A2 cap w1 m2 hm hob oo hbl; have OB1 := Lib.hid hob; have HM2 := Lib.hid hm; have OO := Lib.hid oo; have HBL := Lib.hid hbl; clear hob hm oo hbl)
      have hgq : gq < wr.heap.size := HQ.out.cells.lt
      have OW1 : Hid (Only (fun _ => False) wr w1) := Lib.hid (((Only.refl _ wr).alloc _).trans OO.out (fun k hk e => by
        have e' : some wr.heap.size = some k := e
        injection e' with e'
        omega))
      have FAR := Lib.hid (show ∀ n c j, (Value.slice A2 n c).ownBlock = some j → gq < j from fun n c j hj => by
        rw [own_slice A2 n c m2 cap] at hj
        rcases HBL.out with h | h
        · rw [h] at hj
          have e' : some wr.heap.size = some j := hj
          injection e' with e'
          omega
        · rw [h] at hj
          simp at hj
          omega)
      have HM3 := Lib.hid (show m2 = (x :: lim r).length by have := HM2.out; rw [nints_len, nints_len] at this; simp at this ⊢; omega)
      have TR := Lib.hid (rtrim_ob (x :: lim r) A2 cap w w1 RC.out.1 (by rw [← HM3.out]; exact OB1.out))
      rw [← HM3.out, RC.out.2] at TR
      clear OO HBL HM2 OB1 hgq L0 c0
      refine (TR.out).mono ?_
      rintro e w2 ⟨rfl, hob, rfl⟩
      have RS := Lib.hid hob
      clear hob TR
      obtain ⟨n2, hn2⟩ : ∃ n2, n2 = (lim R').length := ⟨_, rfl⟩
      rw [← hn2] at RS ⊢
      have HN2 := Lib.hid hn2
      clear hn2
      have CM := Lib.hid (rcmp_any R' b A2 V cap cv w1 (by rw [← HN2.out]; exact RS.out.dg) (by rw [← HMV.out]; exact HQ.out.dv.only OW1.out))
      rw [← HN2.out, ← HMV.out] at CM
      go_wp2_with fail
      refine (CM.out).mono ?_
      rintro e w3 ⟨⟨z, rfl, hz⟩, o3⟩
      have O3 := Lib.hid o3
      have hz2 := hz.2
      clear hz o3 CM
      by_cases hle : b ≤ R'
      · have z0 : 0 ≤ z := hz2.2 hle
        clear hz2
        have OW3 := Lib.hid (OW1.out.trans O3.out (fun _ _ h => h))
        have DD := Lib.hid (rdigit_any R' b A2 V cap cv w3 h0 HRB.out (by rw [← HMV.out]; exact HLB.out) (by rw [← HN2.out]; exact (RS.out.keep O3.out).dg) (by rw [← HMV.out]; exact HQ.out.dv.only OW3.out))
        rw [← HN2.out, ← HMV.out] at DD
        go_wp2_with fail
        refine (DD.out).mono ?_
        rintro e w4 ⟨rfl, o4⟩
        have O4 := Lib.hid (O3.out.trans o4 (fun _ _ h => h))
        clear o4 DD O3 OW3
        have OW4 := Lib.hid (OW1.out.trans O4.out (fun _ _ h => h))
        obtain ⟨d, hd⟩ : ∃ d, d = R' / b := ⟨_, rfl⟩
        have hd24 := QS.out
        rw [← hd] at NX hd24 ⊢
        have HDB := Lib.hid hd
        have QC := Lib.hid (HQ.out.cells.only OW4.out (fun h => h))
        have hql : i < (nints q).length := by rw [nints_len, HQ.out.quo.len, ← HM.out]; omega
        have fz := QC.out.frozen i
        have cz := QC.out.cell (i := i) (List.getElem?_eq_getElem hql)
        have QP := Lib.hid (QC.out.put i (.int .i64 (d : Int)))
        have OP := Lib.hid ((Only.refl (· = gq) w4).put (p := ⟨gq, i, none⟩) (fun _ => rfl) (.int .i64 (d : Int)))
        have cp := QP.out.cell (i := i) (v := .int .i64 (d : Int)) (by rw [List.getElem?_set_self hql])
        clear hd
        obtain ⟨w5, hw5⟩ : ∃ w5, w5 = w4.setCell ⟨gq, i, none⟩ (.int .i64 (d : Int)) := ⟨_, rfl⟩
        go_wp2_with fail
        rw [← hw5] at QP OP cp ⊢
        clear hw5
        have VD := Lib.hid ((HQ.out.dv.only OW4.out).far OP.out (fun j hj he => HQ.out.fv j hj he))
        have RD := Lib.hid ((RS.out.keep O4.out).dg.far OP.out (fun j hj he => by have := FAR.out _ _ j hj; omega))
        have TM := Lib.hid (rtimes_any (lim b) d V cv w5 (lims_lim b) (by rw [← HMV.out]; exact HLB.out) hd24 (by rw [← HMV.out]; exact VD.out))
        rw [valL_lim, ← HMV.out] at TM
        have ON5 := Lib.hid (show Only (fun _ => False) w w5 from (HQ.out.own.trans OW4.out (fun _ _ h => h)).trans (OP.out.mono (T := fun k => w.heap.size ≤ k) (fun k _ e => by have := HQ.out.new; omega)) (fun k hk h => by omega))
        have g5 : gq < w5.heap.size := QP.out.lt
        refine (TM.out).mono ?_
        rintro e w6 ⟨T, ct, rfl, hT⟩
        have HT := Lib.hid hT
        clear hT TM
        have HLE := Lib.hid (show b * d ≤ R' by rw [HDB.out]; exact Nat.mul_div_le R' b)
        have MN := Lib.hid (rminus_any (lim R') (lim (b * d)) A2 T cap ct w6 (lims_lim _) (lims_lim _) (by
          have := lim_len_mono (a := R') (b := 16777216 * b) (Nat.le_of_lt HRB.out)
          have h2 : (lim (16777216 * b)).length ≤ (lim b).length + 1 := by
            rw [← lim_len, Nat.pow_succ, Nat.mul_comm]
            have := valL_lt (lims_lim b)
            rw [valL_lim] at this
            exact (Nat.mul_lt_mul_right (by decide)).2 this
          have := HLB3.out
          omega) (lim_len_mono HLE.out) (by rw [valL_lim, valL_lim]; exact HLE.out) (by rw [← HN2.out]; exact RD.out.only HT.out.only) HT.out.dg)
        rw [valL_lim, valL_lim, ← HN2.out, show R' - b * d = R' % b by rw [HDB.out, Nat.mod_eq_sub_mul_div]] at MN
        go_wp2_with fail
        refine (MN.out).mono ?_
        rintro e w7 ⟨A3, c3, rfl, h7⟩
        have H7 := Lib.hid h7
        clear h7 MN
        have ON7 := Lib.hid ((ON5.out.trans HT.out.only (fun _ _ h => h)).trans H7.out.only (fun _ _ h => h))
        have NOB := Lib.hid (show OB 3 w w7 (.slice A3 (lim (R' % b)).length c3) (nints (lim (R' % b))) from ⟨H7.out.own, fun k hk => by
          have := H7.out.new k hk
          have := (ON5.out.trans HT.out.only (fun _ _ h => h)).size
          omega, ON7.out⟩)
        have OQ := Lib.hid (show Only (· = gq) wr w7 from (((OW4.out.mono (T := (· = gq)) (fun _ _ h => h.elim)).trans OP.out (fun _ _ h => h)).trans HT.out.only (fun _ _ h => h.elim)).trans H7.out.only (fun _ _ h => h.elim))
        have CQ := Lib.hid (show At w7 gq 3 (nints (q.set i d)) by
          rw [nints_set]
          exact (QP.out.only HT.out.only (fun h => h)).only H7.out.only (fun h => h))
        have NQ := Lib.hid (NX.out w7 _ CQ.out OQ.out NOB.out (fun j hj => by
          have := H7.out.new j hj
          have := HT.out.only.size
          omega))
        clear cp
        go_wp2_with fail
        go_roundw
        case rel => exact ⟨i, _, R' % b, A3, c3, _, by omega, rfl, rfl, Lib.hid rfl, NQ⟩
        case measure => simp [intOf]
      · have z0 : ¬ 0 ≤ z := fun h => hle (hz2.1 h)
        clear hz2
        go_wp2_with fail
        have OW3 := Lib.hid (OW1.out.trans O3.out (fun _ _ h => h))
        have hq0 : R' / b = 0 := Nat.div_eq_of_lt (by omega)
        have hr0 : R' % b = R' := Nat.mod_eq_of_lt (by omega)
        have NQ := Lib.hid (NX.out w3 (.slice A2 n2 cap) (by
          rw [hq0, set_same (HQ.out.zero i (by omega)) (by rw [HQ.out.quo.len, ← HM.out]; omega)]
          exact (HQ.out.cells.only OW3.out (fun h => h))) (OW3.out.mono (fun _ _ h => h.elim)) (by rw [hr0]; exact RS.out.keep O3.out) (FAR.out n2 cap))
        have HR2 := Lib.hid (show n2 = (lim (R' % b)).length by rw [hr0]; exact HN2.out)
        clear hq0 hr0
        go_roundw
        case rel => exact ⟨i, _, R' % b, A2, cap, n2, by omega, rfl, rfl, HR2, NQ⟩
        case measure => simp [intOf]
theorem rquo_any (s t : ByteArray) (a b : Nat) (w : World) (hs : s.size ≤ 1000000) (ht : t.size ≤ 1000000) (ha : valB s.data.toList = a) (hb : valB t.data.toList = b) (h0 : 0 < b) (h7 : b < 72057594037927936) (hla : a < 18446744073709551616) :
    Calls Tryz.prog 155 #[.string s, .string t] w fun e w' => e = .returned (.tuple #[.string (beS (a / b)), .string (beS (a % b)), .bool true]) ∧ Only (fun _ => False) w w' := by
  by_cases h : a < 72057594037927936
  · exact rquo_short s t a b w hs ht ha hb h0 h7 h
  · exact rquo_long s t a b w hs ht ha hb h0 h7 h (by
      have : (lim a).length ≤ 3 := lim_len.1 (by omega)
      omega)
end Go.Proofs.YtoekhpnapnhefaaGreatDoor

namespace Go.Proofs.YtoekhpnapnhefaaGreatDoor
open Go.RowKit Go.Shelf
set_option linter.unusedVariables false
set_option linter.unusedSimpArgs false

theorem conv_one (W : World) (c : Nat) (h : c < 256) : (convert 46 9 (.slice (some ⟨W.heap.size, 0, none⟩) 1 1)).run Tryz.prog (W.alloc (.cells #[.int .u8 (c : Int)] 5)) = .ok (.string ⟨#[UInt8.ofNat c]⟩) (W.alloc (.cells #[.int .u8 (c : Int)] 5)) := by
  have e : ((UInt8.ofNat c).toNat : Int) = (c : Int) := by rw [UInt8.toNat_ofNat']; omega
  have := run_convert_bytes_back (P := Tryz.prog) (W.alloc (.cells #[.int .u8 (c : Int)] 5)) 46 9 5 ⟨W.heap.size, 0, none⟩ 1 [UInt8.ofNat c] Tryz.underlying46 Tryz.underlying5 Tryz.underlying9 (fun j hj => by
    have hj0 : j = 0 := by simpa using hj
    subst hj0
    rw [Addr.add_lit, Nat.zero_add]
    exact (At.new W 5 [.int .u8 (c : Int)]).cell (by simp; omega))
  exact this
theorem beS_pos {m : Nat} (h : 0 < m) : (beS m).size ≠ 0 := fun h0 => by
  have : m < 256 ^ 0 := beS_size.1 (by omega)
  rw [Nat.pow_zero] at this
  omega
theorem dec_len20 {m : Nat} (h : m < 18446744073709551616) : (Lib.decDigits m).length ≤ 20 :=
  dec_len 19 m (by
    have e : (10 : Nat) ^ (19 + 1) = 100000000000000000000 := by decide
    omega)
set_option maxRecDepth 100000 in
set_option maxHeartbeats 1000000 in
theorem rtext01_any (n : Nat) (w : World) (h : n < 18446744073709551616) :
    Calls Tryz.prog 128 #[.string (beS n)] w fun e w' => e = .returned (.string ⟨(Lib.decDigits n).toArray⟩) ∧ Only (fun _ => False) w w' := by
  have CN := Lib.hid (fun W => rcanon (beS n) W (by have : (beS n).size ≤ 8 := beS_size.2 (by omega); omega))
  rw [canon_beS_self] at CN
  rcases Nat.eq_zero_or_pos n with h0 | h0
  · subst h0
    rw [beS_zero] at CN ⊢
    have HR := Lib.hid (show ByteArray.mk (Lib.decDigits 0).toArray = ⟨#[48]⟩ by rw [decDigits_low (by decide)]; rfl)
    go_enter Tryz.func128, Tryz.ntmps128
    go_wp2_with fail
    refine (CN.out _).mono ?_
    rintro e ws1 ⟨rfl, rfl⟩
    go_wp2_with fail
    go_ret
    exact ⟨by rw [HR.out]; rfl, Only.refl _ _⟩
  · have hp := beS_pos h0
    have OF10 := Lib.hid (fun W => rofS_any 10 W (by omega))
    have b1 : (((beS n).size : Int) == 0) = false := by rw [beq_eq_false_iff_ne]; omega
    have D0 := Lib.hid (show decR n ++ (ByteArray.mk #[]).data.toList = Lib.decDigits n by unfold decR; rw [if_neg (by omega)]; simp)
    have DL := dec_len20 h
    clear hp
    go_enter Tryz.func128, Tryz.ntmps128
    go_wp2_with fail
    refine (CN.out _).mono ?_
    rintro e ws2 ⟨rfl, rfl⟩
    go_wp2_with fail
    go_loopw [0, 3, 4, 5, 6, 7, 8] (fun av sv _ _ _ _ _ wr => ∃ (m : Nat) (t : ByteArray), av = .string (beS m) ∧ sv = .string t ∧ m < 18446744073709551616 ∧ Hid (decR m ++ t.data.toList = Lib.decDigits n) ∧ Hid (Only (fun _ => False) w wr)) (fun av _ _ _ _ _ _ _ => match av with | .string s => valB s.data.toList | _ => 0)
    case atStart => exact ⟨n, ⟨#[]⟩, rfl, rfl, h, D0, Lib.hid (Only.refl _ _)⟩
    case round =>
      obtain ⟨m, t, rfl, rfl, hm, hD, hO⟩ := hrel
      have htz : t.size ≤ 20 := by
        have := congrArg List.length hD.out
        rw [List.length_append] at this
        have h2 : t.data.toList.length = t.size := Array.length_toList
        omega
      rcases Nat.eq_zero_or_pos m with hm0 | hm0
      · subst hm0
        have HR := Lib.hid (show ByteArray.mk (Lib.decDigits n).toArray = t by rw [← hD.out]; simp [decR])
        rw [beS_zero]
        go_wp2_with fail
        go_ret
        exact ⟨by rw [HR.out]; rfl, hO.out⟩
      · have hpm := beS_pos hm0
        have hz8 : (beS m).size ≤ 8 := beS_size.2 (by omega)
        have i1 : (0 : Int) < ((beS m).size : Int) := by omega
        have QU := Lib.hid (fun W => rquo_any (beS m) (beS 10) m 10 W (by omega) (by have : (beS 10).size ≤ 1 := beS_size.2 (by decide); omega) (beS_val m) (beS_val 10) (by decide) (by decide) hm)
        have IN := Lib.hid (fun W => rint_any (beS (m % 10)) W (by have : (beS (m % 10)).size ≤ 1 := beS_size.2 (by omega); omega) (by rw [canon_beS_self]; have : (beS (m % 10)).size ≤ 1 := beS_size.2 (by omega); omega))
        rw [canon_beS_self, beS_val] at IN
        have MV := Lib.hid (show valB (beS m).data.toList = m ∧ valB (beS (m / 10)).data.toList = m / 10 from ⟨beS_val _, beS_val _⟩)
        have ST := Lib.hid (decR_step hm0)
        generalize beS m = x at *
        obtain ⟨q, hq⟩ : ∃ q, q = m / 10 := ⟨_, rfl⟩
        obtain ⟨d, hd⟩ : ∃ d, d = m % 10 := ⟨_, rfl⟩
        rw [← hq, ← hd] at QU
        rw [← hd] at IN ST
        rw [← hq] at ST MV
        have hd10 : d < 10 := by omega
        have hqm : q < m := by omega
        have CV := Lib.hid (fun W => conv_one W (48 + d) (by omega))
        have e1 : (((48 + d : Nat)) : Int) = 48 + (d : Int) := by omega
        rw [e1] at CV
        obtain ⟨c, hc⟩ : ∃ c, c = UInt8.ofNat (48 + d) := ⟨_, rfl⟩
        rw [← hc] at CV ST
        have ND : Hid (decR q ++ ((⟨#[c]⟩ : ByteArray) ++ t).data.toList = Lib.decDigits n) := Lib.hid (by
          rw [← hD.out, ST.out, ByteArray.data_append, Array.toList_append]; simp)
        generalize (beS 10) = y at *
        generalize hz : (beS d) = z at *
        have n1 : ¬ (9223372036854775807 < 1 + t.size) := by omega
        have i2 : (d : Int) < 10 := by omega
        clear hq hd hc hz8 hpm htz e1 hz
        go_wp2_with fail
        refine (OF10.out _).mono ?_
        rintro e w1 ⟨rfl, o1⟩
        have O1 := Lib.hid (hO.out.trans o1 (fun _ _ h => h))
        clear o1
        go_wp2_with fail
        refine (QU.out _).mono ?_
        rintro e w2 ⟨rfl, o2⟩
        have O2 := Lib.hid (O1.out.trans o2 (fun _ _ h => h))
        clear o2
        go_wp2_with fail
        refine (IN.out _).mono ?_
        rintro e w3 ⟨rfl, rfl⟩
        have CW := CV.out w2
        go_wp2_with fail
        go_roundw
        case rel => exact ⟨q, _, rfl, rfl, by omega, ND, Lib.hid (O2.out.alloc _)⟩
        case measure => simp [MV.out.1, MV.out.2]; omega
end Go.Proofs.YtoekhpnapnhefaaGreatDoor

namespace Go.Proofs.YtoekhpnapnhefaaGreatDoor
open Go.RowKit Go.Shelf
set_option linter.unusedVariables false
set_option linter.unusedSimpArgs false

theorem textOf_any (n : Nat) (w : World) (h : n ≤ 9223372036854775807) (W0 : World) (o : Only (fun _ => False) W0 w) :
    Calls Tryz.prog 128 #[.string (beS n)] w fun e w' => e = .returned (.string ⟨(Lib.decDigits n).toArray⟩) ∧ Only (fun _ => False) W0 w' :=
  (rtext01_any n w (by omega)).mono fun e w' h => ⟨h.1, o.trans h.2 (fun _ _ h => h)⟩
theorem quo10 (M : Nat) : (-(M : Int)).tdiv 10 = -((M / 10 : Nat) : Int) ∧ (-(M : Int)).tmod 10 = -((M % 10 : Nat) : Int) := by
  constructor
  · rw [Int.neg_tdiv, Int.tdiv_eq_ediv_of_nonneg (by omega)]; simp
  · rw [Int.neg_tmod, Int.tmod_eq_emod_of_nonneg (by omega)]; simp
theorem itoa_step {M : Nat} (h : 10 ≤ M) : Lib.itoa (-(M : Int)) = Lib.itoa (-((M / 10 : Nat) : Int)) ++ Lib.decDigits (M % 10) := by
  rw [itoa_min (by omega), itoa_min (by omega), show (-(M : Int)).natAbs = M by omega, show (-((M / 10 : Nat) : Int)).natAbs = M / 10 by omega, decDigits_step h, decDigits_low (m := M % 10) (by omega)]
  rfl
set_option maxRecDepth 100000 in
set_option maxHeartbeats 1000000 in
theorem rdec6_nat (M : Nat) (w : World) (h : M ≤ 9223372036854775807) :
    Calls Tryz.prog 112 #[.int .i64 M] w fun e w' => e = .returned (.string ⟨(Lib.itoa M).toArray⟩) ∧ Only (fun _ => False) w w' := by
  have OF := Lib.hid (fun W => rofS_any M W h)
  have TX := Lib.hid (fun W o => textOf_any M W h w o)
  have E := Lib.hid (show Lib.itoa M = Lib.decDigits M by rw [itoa_pos (by omega), Int.toNat_natCast])
  generalize beS M = x at *
  generalize Lib.decDigits M = ds at *
  go_enter Tryz.func112, Tryz.ntmps112
  go_wp2_with fail
  refine (OF.out _).mono ?_
  rintro e w1 ⟨rfl, o1⟩
  go_wp2_with fail
  refine (TX.out _ o1).mono ?_
  rintro e w2 ⟨rfl, o2⟩
  clear o1
  go_wp2_with fail
  go_ret
  exact ⟨by rw [E.out]; rfl, o2⟩
set_option maxRecDepth 100000 in
set_option maxHeartbeats 1000000 in
theorem rdec6_neg : ∀ (M : Nat) (w : World), 0 < M → M ≤ 9223372036854775808 →
    Calls Tryz.prog 112 #[.int .i64 (-(M : Int))] w fun e w' => e = .returned (.string ⟨(Lib.itoa (-(M : Int))).toArray⟩) ∧ Only (fun _ => False) w w' := by
  intro M
  induction M using Nat.strongRecOn with
  | _ M ih =>
    intro w h0 h
    by_cases h10 : M < 10
    · have OF := Lib.hid (fun W => rofS_any M W (by omega))
      have TX := Lib.hid (fun W o => textOf_any M W (by omega) w o)
      have E := Lib.hid (show ByteArray.mk (Lib.itoa (-(M : Int))).toArray = ⟨#[45]⟩ ++ ⟨(Lib.decDigits M).toArray⟩ by
        rw [itoa_min (by omega), show (-(M : Int)).natAbs = M by omega]
        apply ByteArray.ext
        simp [ByteArray.data_append])
      have n1 : ¬ (9223372036854775807 < 1 + (ByteArray.mk (Lib.decDigits M).toArray).size) := by
        have := dec_len20 (m := M) (by omega)
        show ¬ (9223372036854775807 < 1 + (Lib.decDigits M).toArray.size)
        rw [List.size_toArray]
        omega
      generalize beS M = x at *
      generalize ByteArray.mk (Lib.decDigits M).toArray = ds at *
      clear ih
      go_enter Tryz.func112, Tryz.ntmps112
      go_wp2_with fail
      refine (OF.out _).mono ?_
      rintro e w1 ⟨rfl, o1⟩
      go_wp2_with fail
      refine (TX.out _ o1).mono ?_
      rintro e w2 ⟨rfl, o2⟩
      clear o1
      go_wp2_with fail
      go_ret
      exact ⟨by rw [E.out]; rfl, o2⟩
    · obtain ⟨q1, q2⟩ := quo10 M
      have IH := Lib.hid (fun W => ih (M / 10) (by omega) W (by omega) (by omega))
      have OF := Lib.hid (fun W => rofS_any (M % 10) W (by omega))
      have TX := Lib.hid (fun W o => textOf_any (M % 10) W (by omega) w o)
      have E := Lib.hid (show ByteArray.mk (Lib.itoa (-(M : Int))).toArray = ByteArray.mk (Lib.itoa (-((M / 10 : Nat) : Int))).toArray ++ ⟨(Lib.decDigits (M % 10)).toArray⟩ by
        rw [itoa_step (by omega)]
        apply ByteArray.ext
        simp [ByteArray.data_append])
      have z1 : (ByteArray.mk (Lib.itoa (-((M / 10 : Nat) : Int))).toArray).size ≤ 21 := Lib.itoa_length_le _ (by omega) (by omega)
      have z2 : (ByteArray.mk (Lib.decDigits (M % 10)).toArray).size ≤ 20 := by
        show (Lib.decDigits (M % 10)).toArray.size ≤ 20
        rw [List.size_toArray]
        exact dec_len20 (by omega)
      generalize beS (M % 10) = x at *
      generalize ByteArray.mk (Lib.decDigits (M % 10)).toArray = ds at *
      generalize ByteArray.mk (Lib.itoa (-((M / 10 : Nat) : Int))).toArray = qs at *
      have n1 : ¬ (9223372036854775807 < qs.size + ds.size) := by omega
      obtain ⟨q, hq⟩ : ∃ q, q = M / 10 := ⟨_, rfl⟩
      obtain ⟨d, hd⟩ : ∃ d, d = M % 10 := ⟨_, rfl⟩
      rw [← hq] at q1 IH
      rw [← hd] at q2 OF
      have hd10 : d < 10 := by omega
      have hqq : q ≤ 922337203685477580 := by omega
      have hneg : ¬ (-(M : Int)) > -10 := by omega
      have hneg2 : (-(M : Int)) < 0 := by omega
      have hrange : -9223372036854775808 ≤ (-(M : Int)) := by omega
      have HM := Lib.hid h10
      clear ih hq hd z1 z2 h10 h0 h
      generalize (-(M : Int)) = n at *
      go_enter Tryz.func112, Tryz.ntmps112
      go_wp2_with fail
      refine (IH.out _).mono ?_
      rintro e w1 ⟨rfl, o1⟩
      go_wp2_with fail
      refine (OF.out _).mono ?_
      rintro e w2 ⟨rfl, o2⟩
      have O2 := o1.trans o2 (fun _ _ h => h)
      go_wp2_with fail
      refine (TX.out _ O2).mono ?_
      rintro e w3 ⟨rfl, o3⟩
      clear o1 o2 O2
      go_wp2_with fail
      go_ret
      exact ⟨by rw [E.out]; rfl, o3⟩
theorem rdec6_any (n : Int) (w : World) (h : I64 n) :
    Calls Tryz.prog 112 #[.int .i64 n] w fun e w' => e = .returned (.string ⟨(Lib.itoa n).toArray⟩) ∧ Only (fun _ => False) w w' := by
  unfold I64 at h
  by_cases h0 : 0 ≤ n
  · obtain ⟨N, rfl⟩ := Int.eq_ofNat_of_zero_le h0
    exact rdec6_nat N w (by omega)
  · obtain ⟨M, hM⟩ : ∃ M : Nat, n = -(M : Int) := ⟨n.natAbs, by omega⟩
    subst hM
    exact rdec6_neg M w (by omega) (by omega)
end Go.Proofs.YtoekhpnapnhefaaGreatDoor
