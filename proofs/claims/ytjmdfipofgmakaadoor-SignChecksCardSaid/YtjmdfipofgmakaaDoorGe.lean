/-
  Member of package group and of the reference: contracts; members in Int.
-/
import Derived.Test.YtjmdfipofgmakaaDoorGd
import Derived.Test.YtjmdfipofgmakaaDoorGr
namespace Go.Proofs.YtjmdfipofgmakaaDoor
open Go.RowKit
set_option linter.unusedVariables false
set_option linter.unusedSimpArgs false

/-- a number is a member of the group, as a test -/
def memB (a : Int) : Bool := decide (1 ≤ a ∧ a < 2305843009213691579 ∧ pm a 1152921504606845789 2305843009213691579 = 1)

theorem member_any (a : Int) (w : World) (ha : I64 a) :
    Calls Tryd.prog 81 #[.int .i64 a] w fun e w' => e = .returned (.bool (memB a)) ∧ Only (fun _ => False) w w' := by
  have hp := pow_any a 1152921504606845789 2305843009213691579
  rw [show (1152921504606845789 : Int).toNat = 1152921504606845789 from rfl] at hp
  by_cases h1 : 1 ≤ a
  · by_cases h2 : a < 2305843009213691579
    · have hm : memB a = (pm a 1152921504606845789 2305843009213691579 == 1) := by
        unfold memB
        rw [decide_eq_decide.2 (show _ ↔ pm a 1152921504606845789 2305843009213691579 = 1 from ⟨fun h => h.2.2, fun h => ⟨h1, h2, h⟩⟩)]
        rfl
      have HM := Lib.hid hm
      have HP := Lib.hid hp
      clear hm hp
      generalize pm a 1152921504606845789 2305843009213691579 = c at *
      go_enter Tryd.func81, Tryd.ntmps81
      go_wp2_with fail
      refine (HP.out _ (by omega) (by omega) ha (by omega) (by omega)).mono ?_
      rintro e w' ⟨rfl, ho⟩
      go_wp2_with fail
      go_ret
      exact ⟨by rw [HM.out]; rfl, ho⟩
    · have hm : memB a = false := by unfold memB; rw [decide_eq_false]; exact fun h => h2 h.2.1
      have HM := Lib.hid hm
      clear hm hp
      go_enter Tryd.func81, Tryd.ntmps81
      go_wp2_with fail
      go_ret
      exact ⟨by rw [HM.out]; rfl, Only.refl _ _⟩
  · have hm : memB a = false := by unfold memB; rw [decide_eq_false]; exact fun h => h1 h.1
    have HM := Lib.hid hm
    clear hm hp
    go_enter Tryd.func81, Tryd.ntmps81
    go_wp2_with fail
    go_ret
    exact ⟨by rw [HM.out]; rfl, Only.refl _ _⟩
theorem rmember_any (a : Int) (w : World) (ha : I64 a) :
    Calls Tryd.prog 82 #[.int .i64 a] w fun e w' => e = .returned (.bool (memB a)) ∧ w = w' := by
  have hp := rpow_any a 1152921504606845789 2305843009213691579
  rw [show (1152921504606845789 : Int).toNat = 1152921504606845789 from rfl] at hp
  by_cases h1 : 1 ≤ a
  · by_cases h2 : a < 2305843009213691579
    · have hm : memB a = (pm a 1152921504606845789 2305843009213691579 == 1) := by
        unfold memB
        rw [decide_eq_decide.2 (show _ ↔ pm a 1152921504606845789 2305843009213691579 = 1 from ⟨fun h => h.2.2, fun h => ⟨h1, h2, h⟩⟩)]
        rfl
      have HM := Lib.hid hm
      have HP := Lib.hid hp
      clear hm hp
      generalize pm a 1152921504606845789 2305843009213691579 = c at *
      go_enter Tryd.func82, Tryd.ntmps82
      go_wp2_with fail
      refine (HP.out _ (by omega) (by omega) ha (by omega) (by omega)).mono ?_
      rintro e w' ⟨rfl, rfl⟩
      go_wp2_with fail
      go_ret
      exact ⟨by rw [HM.out]; rfl, rfl⟩
    · have hm : memB a = false := by unfold memB; rw [decide_eq_false]; exact fun h => h2 h.2.1
      have HM := Lib.hid hm
      clear hm hp
      go_enter Tryd.func82, Tryd.ntmps82
      go_wp2_with fail
      go_ret
      exact ⟨by rw [HM.out]; rfl, rfl⟩
  · have hm : memB a = false := by unfold memB; rw [decide_eq_false]; exact fun h => h1 h.1
    have HM := Lib.hid hm
    clear hm hp
    go_enter Tryd.func82, Tryd.ntmps82
    go_wp2_with fail
    go_ret
    exact ⟨by rw [HM.out]; rfl, rfl⟩

theorem pm_nat (A n M : Nat) : pm (A : Int) n (M : Int) = ((A ^ n % M : Nat) : Int) := by unfold pm; simp
theorem P_int : (2305843009213691579 : Int) = ((gP : Nat) : Int) := rfl
theorem Q_int : (1152921504606845789 : Int) = ((gQ : Nat) : Int) := rfl
theorem memB_iff (a : Int) : memB a = true ↔ ∃ A : Nat, a = (A : Int) ∧ Mem A := by
  unfold memB
  rw [decide_eq_true_iff, show (1152921504606845789 : Nat) = gQ from rfl, P_int]
  constructor
  · rintro ⟨h1, h2, h3⟩
    obtain ⟨A, rfl⟩ := Int.eq_ofNat_of_zero_le (show 0 ≤ a by omega)
    rw [pm_nat] at h3
    exact ⟨A, rfl, by omega, by omega, by omega⟩
  · rintro ⟨A, rfl, h1, h2, h3⟩
    rw [pm_nat, h3]
    exact ⟨by omega, by omega, rfl⟩
theorem memB_nat {A : Nat} (h : Mem A) : memB (A : Int) = true := (memB_iff _).2 ⟨A, rfl, h⟩
theorem memB_not {a : Int} (h : ∀ A : Nat, a = (A : Int) → ¬ Mem A) : memB a = false := by
  cases hb : memB a
  · rfl
  · obtain ⟨A, h1, h2⟩ := (memB_iff a).1 hb
    exact absurd h2 (h A h1)
end Go.Proofs.YtjmdfipofgmakaaDoor
