/-
  group.number: contract.
-/
import Derived.Test.YtjmdfipofgmakaaDoorSm
namespace Go.Proofs.YtjmdfipofgmakaaDoor
open Go.RowKit
set_option linter.unusedVariables false
set_option linter.unusedSimpArgs false

/-- the first bytes as a number, as the code has it -/
def accN (l : List UInt8) : Nat → Int
  | 0 => 0
  | k + 1 => bits .or .u64 (IntKind.u64.wrap (accN l k * 256)) (IntKind.u64.wrap ((l.getD k 0).toNat : Int))
def numH (l : List UInt8) : Int := wrap64 (bits .and .u64 (accN l 8) 9223372036854775807)
theorem bcells_cell {l : List UInt8} {k : Nat} (h : k < l.length) : (bcells l)[k]? = some (.int .u8 ((l.getD k 0).toNat : Int)) := by
  simp [bcells, List.getD_eq_getElem?_getD, h]
set_option maxRecDepth 100000 in
set_option maxHeartbeats 1000000 in
theorem number_any (l : List UInt8) (hl : l.length = 32) (w : World) :
    Calls Tryd.prog 104 #[.agg (bcells l).toArray] w fun e w' => e = .returned (.int .i64 (numH l)) ∧ Only (fun _ => False) w w' := by
  have HL := Lib.hid hl
  clear hl
  have H0 := Lib.hid (At.new w 126 (bcells l))
  have O0 := Lib.hid ((Only.refl (fun _ => False) w).alloc (.cells (bcells l).toArray 126))
  go_enter Tryd.func104, Tryd.ntmps104
  go_wp2_with fail
  go_loopw [3, 5] (fun a iv wr => ∃ k : Nat, k ≤ 8 ∧ a = .int .u64 (accN l k) ∧ iv = .int .i64 k ∧ Hid (At wr w.heap.size 126 (bcells l)) ∧ Hid (Only (fun _ => False) w wr)) (fun _ iv _ => 8 - (intOf iv).toNat)
  case atStart => exact ⟨0, by omega, rfl, rfl, H0.out, O0.out⟩
  case round =>
    clear H0 O0
    obtain ⟨k, hk, rfl, rfl, hA, hO⟩ := hrel
    by_cases hlt : k < 8
    · have c := hA.out.cell (bcells_cell (k := k) (by rw [HL.out]; omega))
      have NX := Lib.hid (show accN l (k + 1) = bits .or .u64 (IntKind.u64.wrap (accN l k * 256)) (IntKind.u64.wrap ((l.getD k 0).toNat : Int)) from rfl)
      generalize l.getD k 0 = b at *
      generalize accN l k = x at *
      have i1 : (k : Int) < 8 := by omega
      go_wp2_with fail
      go_roundw
      case rel => exact ⟨k + 1, by omega, by rw [NX.out], by go_num, hA.out, hO.out⟩
      case measure => simp [intOf]; omega
    · obtain rfl : k = 8 := by omega
      have NX := Lib.hid (show numH l = wrap64 (bits .and .u64 (accN l 8) 9223372036854775807) from rfl)
      generalize accN l 8 = x at *
      go_wp2_with fail
      go_ret
      exact ⟨by rw [NX.out]; rfl, hO.out⟩
end Go.Proofs.YtjmdfipofgmakaaDoor
