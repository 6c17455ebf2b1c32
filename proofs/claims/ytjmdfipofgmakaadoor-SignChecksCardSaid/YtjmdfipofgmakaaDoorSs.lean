/-
  sign.bytes: contract.
-/
import Derived.Laws.IdiomStrings
import Derived.Test.YtjmdfipofgmakaaDoorSm
namespace Go.Proofs.YtjmdfipofgmakaaDoor
open Go.RowKit
set_option linter.unusedVariables false
set_option linter.unusedSimpArgs false

/-- the eight bytes of a number, the last k of them laid -/
def byZ (n : Int) : Nat → List UInt8
  | 0 => List.replicate 8 0
  | k + 1 => (byZ n k).set (7 - k) (UInt8.ofNat (n / 2 ^ (8 * k) % 256).toNat)
def by8 (n : Int) : List UInt8 := byZ n 8
theorem byZ_len (n : Int) : ∀ k, (byZ n k).length = 8
  | 0 => rfl
  | k + 1 => by rw [byZ, List.length_set, byZ_len n k]
theorem byZ_set (n : Int) (k : Nat) : (bcells (byZ n k)).set (7 - k) (.int .u8 (n / 2 ^ (8 * k) % 256)) = bcells (byZ n (k + 1)) := by
  rw [byZ, bcells, bcells, List.map_set, by_num]
theorem bcells_cell8 {l : List UInt8} {k : Nat} (h : k < l.length) : (bcells l)[k]? = some (.int .u8 ((l.getD k 0).toNat : Int)) := by
  simp [bcells, List.getD_eq_getElem?_getD, h]
theorem bcells_get' {l : List UInt8} {j : Nat} (h : j < l.length) : (bcells l)[j]? = some (.int .u8 (l[j].toNat : Int)) := by
  simp [bcells, h]
def z8 : List Value := List.replicate 8 (Value.int .u8 0)
theorem zero8b (w : World) : (zeroValue 149).run Tryd.prog w = .ok (.agg z8.toArray) w := by kernel_rfl
theorem arr8 : Tryd.prog.underlying 149 = some (.array (Tryd.prog.arrayLen 149) (Tryd.prog.elem 149)) := by kernel_rfl
theorem arrLen8 : Tryd.prog.arrayLen 149 = 8 := by kernel_rfl
theorem arrElem8 : Tryd.prog.elem 149 = 5 := by kernel_rfl
theorem slice_8 (g : Nat) (w : World) : (Instr.sliceAt 149 (.pointer (some ⟨g, 0, none⟩)) none none none).run Tryd.prog w = .ok (.slice (some ⟨g, 0, none⟩) 8 8) w := by
  rw [run_sliceAt_array_all (P := Tryd.prog) w _ ⟨g, 0, none⟩ arr8, arrElem8, Tryd.sizeOf5, arrLen8]
  rfl
set_option maxRecDepth 100000 in
set_option maxHeartbeats 1000000 in
theorem sbytes_any (n : Int) (w : World) :
    Calls Tryd.prog 112 #[.int .i64 n] w fun e w' => e = .returned (.string ⟨(by8 n).toArray⟩) ∧ Only (fun _ => False) w w' := by
  go_enter Tryd.func112, Tryd.ntmps112
  go_wp2_with (with_reducible refine wpl_alloc_all (o := ⟨some 3, _, _, _, _, _⟩) rfl _ rfl _ (zero8b _) ?_; intro w1 h1 o1 s1; have H1 := Lib.hid h1; have O1 := Lib.hid o1; clear h1 o1 s1)
  go_loopw [5] (fun iv wr => ∃ k : Nat, k ≤ 8 ∧ iv = .int .i64 k ∧ Hid (At wr w.heap.size 149 (bcells (byZ n k))) ∧ Hid (Only (fun _ => False) w wr)) (fun iv _ => 8 - (intOf iv).toNat)
  case atStart => exact ⟨0, by omega, rfl, H1.out, O1.out⟩
  case round =>
    clear H1 O1
    obtain ⟨k, hk, rfl, hA, hO⟩ := hrel
    by_cases hlt : k < 8
    · have c := hA.out.cell (bcells_cell8 (l := byZ n k) (k := 7 - k) (by rw [byZ_len]; omega))
      have f := hA.out.frozen (7 - k)
      have NX := Lib.hid (byZ_set n k)
      generalize (byZ n k).getD (7 - k) 0 = b at *
      have i1 : (k : Int) < 8 := by omega
      have i2 : (0 : Int) ≤ 7 - (k : Int) := by omega
      have i3 : (7 : Int) - (k : Int) < 8 := by omega
      have i4 : ((7 : Int) - (k : Int)).toNat = 7 - k := by omega
      have i5 : IntKind.i64.wrap (8 * (k : Int)) = 8 * (k : Int) := by rw [IntKind.wrap_i64]; omega
      have i6 : (0 : Int) ≤ 8 * (k : Int) := by omega
      have i7 : (8 * (k : Int)).toNat = 8 * k := by omega
      go_wp2_with fail
      exact ⟨⟨k + 1, by omega, by go_num, by rw [← NX.out]; exact hA.out.put (7 - k) _, hO.out.put (p := ⟨w.heap.size, 7 - k, none⟩) (fun h => absurd h (Nat.lt_irrefl _)) _⟩, by simp [intOf]; omega⟩
    · obtain rfl : k = 8 := by omega
      have hcv := run_convert_bytes_back (P := Tryd.prog) wr 69 9 5 ⟨w.heap.size, 0, none⟩ 8 (by8 n) Tryd.underlying69 Tryd.underlying5 Tryd.underlying9 (fun j hj => by rw [Addr.add_lit, Nat.zero_add]; exact hA.out.cell (bcells_get' hj))
      rw [show (by8 n).length = 8 from byZ_len n 8] at hcv
      have SL := fun w' => slice_8 w.heap.size w'
      go_wp2_with fail
      go_ret
      exact ⟨rfl, hO.out⟩
end Go.Proofs.YtjmdfipofgmakaaDoor
