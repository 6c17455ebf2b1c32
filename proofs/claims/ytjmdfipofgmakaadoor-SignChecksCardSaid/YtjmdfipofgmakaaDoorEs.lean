/-
  Equality of structs of two ints.
-/
import Derived.Test.YtjmdfipofgmakaaDoorMem
import Derived.Test.YtjmdfipofgmakaaDoorProg
namespace Go.Proofs.YtjmdfipofgmakaaDoor
open Go.RowKit
set_option linter.unusedVariables false
set_option linter.unusedSimpArgs false

/-- two signatures are equal as their numbers are -/
theorem eql_sig (w : World) (a b c d : Int) : (binOp .eql 52 (.agg #[.int .i64 a, .int .i64 b]) (.agg #[.int .i64 c, .int .i64 d])).run Tryd.prog w = .ok (.bool (a == c && b == d)) w := by
  rw [run_eql_struct]
  go_simp
  by_cases h1 : a = c <;> by_cases h2 : b = d <;> simp [h1, h2]
theorem eql_sig_same (w : World) (a b : Int) : (binOp .eql 52 (.agg #[.int .i64 a, .int .i64 b]) (.agg #[.int .i64 a, .int .i64 b])).run Tryd.prog w = .ok (.bool true) w := by
  rw [eql_sig]; simp
theorem neq_sig (w : World) (a b c d : Int) : (binOp .neq 52 (.agg #[.int .i64 a, .int .i64 b]) (.agg #[.int .i64 c, .int .i64 d])).run Tryd.prog w = .ok (.bool (!(a == c && b == d))) w := by
  rw [run_neq_struct]
  go_simp
  by_cases h1 : a = c <;> by_cases h2 : b = d <;> simp [h1, h2]
/-- an operation on two values, by its run -/
theorem wpl_bin {P : Program} {ops : Array Oper} {rest : List Oper} {o : Oper} {a : Act} {w : World} {Q : Exit → Act → World → Prop} (hw : Region.wanted o (yielded ops a.tmps) = true) (op : BinOp) (t u : TypeId) (x y : Operand) (ho : o.op = .binOp op t x y u) (v1 v2 r : Value) (hx : a.eval x = v1) (hy : a.eval y = v2)
    (hg : (eqGuard op t x y v1 v2).run P w = .ok () w) (hr : (binOp op t v1 v2).run P w = .ok r w) (h : wpList P ops Q rest (a.put o.dst r) w) : wpList P ops Q (o :: rest) a w := by
  refine wpList_step fun K hK => ?_
  rw [if_pos hw]
  unfold Oper.wp execOp
  simp only [ho, hx, hy, Sem.run_bind, hg, hr, Result.andThen_ok]
  exact hK _ _ h
theorem guard_sig (w : World) (x y : Operand) (a b c d : Int) : (eqGuard .eql 52 x y (.agg #[.int .i64 a, .int .i64 b]) (.agg #[.int .i64 c, .int .i64 d])).run Tryd.prog w = .ok () w := by
  go_simp
end Go.Proofs.YtjmdfipofgmakaaDoor
