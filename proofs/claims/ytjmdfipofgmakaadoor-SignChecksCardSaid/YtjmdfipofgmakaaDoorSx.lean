/-
  sorteslaw05.sanity: contract.
-/
import Derived.Test.YtjmdfipofgmakaaDoorSw
namespace Go.Proofs.YtjmdfipofgmakaaDoor
open Go.RowKit Go.Shelf
set_option linter.unusedVariables false
set_option linter.unusedSimpArgs false

/-- structs of two ints that lie somewhere -/
def Ats (t : TypeId) (W : World) : List (Nat × List Value) → Prop
  | [] => True
  | p :: l => At W p.1 t p.2 ∧ Ats t W l
theorem Ats.only {t : TypeId} {W W' : World} (o : Only (fun _ => False) W W') : ∀ {l}, Ats t W l → Ats t W' l
  | [], _ => trivial
  | _ :: _, h => ⟨h.1.only o (fun h => h), Ats.only o h.2⟩
theorem verB_one (text : List UInt8) : verB 1 text 1 0 = true := by
  have h1 : memB 1 = true := memB_nat Mem_one
  unfold verB
  rw [h1, Bool.true_and, Bool.true_and, decide_eq_true (by omega), decide_eq_true (by omega), Bool.true_and, Bool.true_and, beq_iff_eq]
  have h : ∀ n, pm 1 n 2305843009213691579 = 1 := fun n => by unfold pm; rw [Int.one_pow]; rfl
  rw [h]
  rfl
theorem verB_zero (text : List UInt8) (r s : Int) : verB 0 text r s = false := by
  have h1 : memB 0 = false := by unfold memB; rw [decide_eq_false]; omega
  unfold verB
  rw [h1, Bool.false_and]
theorem verB_high (k r s : Int) (text : List UInt8) (h : ¬ s < 1152921504606845789) : verB k text r s = false := by
  unfold verB
  rw [decide_eq_false h, Bool.false_and, Bool.and_false, Bool.and_false, Bool.and_false]
theorem cut1 : Lib.cut (ByteArray.mk #[49, 50, 46, 51]).data.toList [46] = ((ByteArray.mk #[49, 50]).data.toList, (ByteArray.mk #[51]).data.toList, true) := by decide +kernel
theorem cut2 : Lib.cut (ByteArray.mk #[48, 49, 50, 46, 51]).data.toList [46] = ((ByteArray.mk #[48, 49, 50]).data.toList, (ByteArray.mk #[51]).data.toList, true) := by decide +kernel
theorem par1 : Lib.parseIntB 64 (ByteArray.mk #[49, 50]).data.toList = .ok 12 := by decide +kernel
theorem par2 : Lib.parseIntB 64 (ByteArray.mk #[48, 49, 50]).data.toList = .ok 12 := by decide +kernel
theorem par3 : Lib.parseIntB 64 (ByteArray.mk #[51]).data.toList = .ok 3 := by decide +kernel
theorem txt1 : txt 12 3 = (ByteArray.mk #[49, 50, 46, 51]).data.toList := by decide +kernel
theorem txt2 : ¬ txt 12 3 = (ByteArray.mk #[48, 49, 50, 46, 51]).data.toList := by decide +kernel
theorem txt3 : ByteArray.mk (txt 12 (-3)).toArray = ByteArray.mk #[49, 50, 46, 45, 51] := by rw [show txt 12 (-3) = [49, 50, 46, 45, 51] by decide +kernel]
end Go.Proofs.YtjmdfipofgmakaaDoor
