/-
  group.Scalar: contract.
-/
import Derived.Test.YtjmdfipofgmakaaDoorSo
import Derived.Test.YtjmdfipofgmakaaDoorSp
import Derived.Test.YtjmdfipofgmakaaDoorGa
namespace Go.Proofs.YtjmdfipofgmakaaDoor
open Go.RowKit
set_option linter.unusedVariables false
set_option linter.unusedSimpArgs false

theorem sha_len (l : List UInt8) : (sha l).length = 32 := rfl
/-- a number modulo Q out of a text -/
def scal (l : List UInt8) : Int := numH (sha ([115, 47] ++ l)) % 1152921504606845789
theorem scal_range (l : List UInt8) : 0 ≤ scal l ∧ scal l < 1152921504606845789 := by unfold scal; omega
theorem numH_range (l : List UInt8) : -9223372036854775808 ≤ numH l ∧ numH l ≤ 9223372036854775807 := by
  unfold numH wrap64; omega
theorem scalar_any (s : ByteArray) (w : World) (hs : s.size ≤ 140737488353000) :
    Calls Tryd.prog 64 #[.string s] w fun e w' => e = .returned (.int .i64 (scal s.data.toList)) ∧ Only (fun _ => False) w w' := by
  obtain ⟨t, ht⟩ : ∃ t, t = (⟨#[115, 47]⟩ : ByteArray) ++ s := ⟨_, rfl⟩
  have hz : t.size ≤ 140737488354000 := by rw [ht, ByteArray.size_append]; show 2 + s.size ≤ _; omega
  have hl : t.data.toList = [115, 47] ++ s.data.toList := by rw [ht, ByteArray.data_append]; simp
  have SM := Lib.hid (sum_any t)
  have HZ := Lib.hid hz
  have HT := Lib.hid ht.symm
  have HS := Lib.hid (show scal s.data.toList = numH (sha t.data.toList) % 1152921504606845789 by rw [hl]; rfl)
  have HR := Lib.hid (numH_range (sha t.data.toList))
  have HN := Lib.hid (number_any (sha t.data.toList) (sha_len _))
  have hneg : ¬ (9223372036854775807 < 2 + s.size) := by omega
  clear hz hl hs ht
  go_enter Tryd.func64, Tryd.ntmps64
  go_wp2_with fail
  rw [HT.out]
  refine (SM.out _ HZ.out).mono ?_
  rintro e w1 ⟨rfl, o1⟩
  generalize sha t.data.toList = h at *
  go_wp2_with fail
  refine (HN.out _).mono ?_
  rintro e w2 ⟨rfl, o2⟩
  go_wp2_with fail
  refine (residue_any _ _ _ (by omega) (by omega) HR.out.1 HR.out.2).mono ?_
  rintro e w3 ⟨rfl, rfl⟩
  go_wp2_with fail
  go_ret
  exact ⟨by rw [HS.out]; rfl, o1.trans o2 (fun _ _ h => h)⟩
end Go.Proofs.YtjmdfipofgmakaaDoor
