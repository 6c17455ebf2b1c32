/-
  A world for the witnesses: the library's variables as their initialisers lay them.
-/
import Derived.Test.YtjmdfipofgmakaaDoorLw
namespace Go.Proofs.YtjmdfipofgmakaaDoor
open Go.ChangeShapes Go.WideShapes Go.ChangeAt Go.RowKit
set_option linter.unusedVariables false
set_option linter.unusedSimpArgs false

/-- the cells of a table of ints -/
def cellsD : DataW Unit → Array Value
  | .agg ps => (ps.map fun | .lit (.int k z) => Value.int k z | _ => Value.int .u8 0).toArray
  | _ => #[]
abbrev textR : ByteArray := { data := #[118, 97, 108, 117, 101, 32, 111, 117, 116, 32, 111, 102, 32, 114, 97, 110, 103, 101] }
abbrev textS : ByteArray := { data := #[105, 110, 118, 97, 108, 105, 100, 32, 115, 121, 110, 116, 97, 120] }
noncomputable def low : Nat := (World.holding Tryd.prog default ⟨#[], #[], []⟩).heap.size
def setC (cs : Array Value) : Obj → Obj
  | .cells _ t fr => .cells cs t fr
  | o => o
noncomputable def laidWorld (os : Os) : World :=
  let w0 := World.holding Tryd.prog os ⟨#[.cells #[.string textR] 195, .cells #[.string textS] 195], #[], []⟩
  { w0 with heap := ((((w0.heap.modify 4 (setC #[.iface 193 (.pointer (some ⟨low, 0, none⟩))])).modify 3 (setC #[.iface 193 (.pointer (some ⟨low + 1, 0, none⟩))])).modify
      5 (setC (cellsD Rows.laid_internal_strconv_uint64pow10))).modify 6 (setC (cellsD Rows.laid_math_bits_deBruijn32tab))).modify 7 (setC (cellsD Rows.laid_math_bits_deBruijn64tab)) }
theorem laid_met5 (os : Os) (args : Array Value) : laidMet Tryd.prog Rows.signVerifiesRow.laid ((laidWorld os).forCall (fun _ _ => 0) ⟨#[], args, []⟩).memory :=
  laidMet_of_run' 8 (by kernel_rfl) (by kernel_rfl)
end Go.Proofs.YtjmdfipofgmakaaDoor
