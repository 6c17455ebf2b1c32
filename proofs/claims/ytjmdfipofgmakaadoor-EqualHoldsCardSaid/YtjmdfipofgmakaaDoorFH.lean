/-
  Proved: sorteslaw06.EqualHolds returns true for every secret number and all numbers of the bases, never panics, and leaves its arguments as they were. Conditions: those of the given row (what the row's variables hold is what their initialisers lay; strings take at most the bytes that the row allows).
-/
import Derived.Test.YtjmdfipofgmakaaDoorME
import Derived.Test.YtjmdfipofgmakaaDoorMF
namespace Go.Proofs.YtjmdfipofgmakaaDoor
open Go.ChangeShapes Go.WideShapes Go.ChangeAt Go.RowKit
set_option linter.unusedVariables false
set_option linter.unusedSimpArgs false

theorem equalHolds_walk (W : World) (vals : Ty.Vals [.int .i64, .int .i64, .int .i64]) (args : List Value) (h : ArgsHold W [.int .i64, .int .i64, .int .i64] vals args) (hs : SmallAll [.int .i64, .int .i64, .int .i64] vals) (hL : laidMetH Tryd.prog Rows.equalHoldsRow.laid W) (hO : W.ShapedOpen Tryd.prog) :
    Calls Tryd.prog 14 args.toArray W fun e W' => e = .returned (.bool true) ∧ Below W.heap.size W W' := by
  obtain ⟨secret, g, q, _⟩ := vals
  obtain ⟨c0, v0, r0, rfl, h0, i0, c1, v1, r1, rfl, h1, i1, c2, v2, r2, rfl, h2, i2, rfl⟩ := h
  obtain ⟨rfl, k0⟩ := int_arg h0 i0
  obtain ⟨rfl, k1⟩ := int_arg h1 i1
  obtain ⟨rfl, k2⟩ := int_arg h2 i2
  refine (equalHolds_any secret g q W (tab_of hL) (maxL_of hO) k0 k1 k2).mono ?_
  rintro e w' ⟨h1, o⟩
  exact ⟨h1, o.below (fun _ h => h.elim) (Nat.le_refl _)⟩
theorem equalHolds_reads (os : Os) {H : Type} (enc : TypeId × Value → H) : ∃ places, DataW.whole enc Tryd.prog ((laidWorld os).forCall (fun _ _ => 0) ⟨#[], #[.int .i64 0, .int .i64 0, .int .i64 0], []⟩).memory Tryd.f14.params.toList Rows.equalHoldsSpec.vars false (#[.int .i64 0, .int .i64 0, .int .i64 0] : Array Value).toList 8 = some ([.lit (.int .i64 0), .lit (.int .i64 0), .lit (.int .i64 0)], [], places) :=
  ⟨[], by kernel_rfl⟩
set_option maxRecDepth 100000 in
theorem equalHolds_lifted (os : Os) (started : os.Started) (H : Type) (enc : TypeId × Value → H) (F : Stop.Interp) :
    ReturnsInHanded {} Tryd.checked os 14 .any ((OpenSpec.ofChange Rows.equalHoldsSpec).preRow enc Tryd.prog Tryd.f14 Rows.equalHoldsRow.domain false Rows.equalHoldsRow.laid) (((OpenSpec.ofChange Rows.equalHoldsSpec).at F).post enc Tryd.prog Tryd.f14 false true false false) := by
  obtain ⟨places, hx⟩ := equalHolds_reads os enc
  refine row_lifted 14 Tryd.f14 Rows.equalHoldsSpec Rows.equalHoldsRow.domain Rows.equalHoldsRow.laid [.int .i64, .int .i64, .int .i64] 4 os started H enc F Tryd.func14 (by kernel_rfl) rfl rfl (by kernel_rfl) Tryd.underlying4 (by kernel_rfl) (by kernel_rfl) ?_
    (witness_row_at (enc := enc) (C := Tryd.checked) false (laidWorld os) #[.int .i64 0, .int .i64 0, .int .i64 0] rfl (by kernel_rfl) (by kernel_rfl) (by kernel_rfl)
      (OpenSpec.preRow_of_cond 8 hx (by kernel_rfl) (fun k hk => by cases hk) (by kernel_rfl) (laid_met5 os _))) equalHolds_walk
  intro ds hd
  match ds, hd with
  | [d1, d2, d3], _ => rfl
theorem equalHolds_said : Rows.EqualHoldsSaid :=
  OpenClaim.holds_of_cond 14 Tryd.f14 rfl rfl rfl rfl rfl rfl rfl ⟨rfl, rfl, rfl, rfl, rfl⟩ rfl rfl rfl rfl rfl (by kernel_rfl) Tryd.func14 (by kernel_rfl)
    (of_decide_eq_true (by kernel_rfl)) (by unfold Func.isWrapper; first | (rw [if_pos (by decide +kernel)]; kernel_rfl) | (rw [if_neg (by decide +kernel)]; exact ⟨rfl, rfl⟩))
    (fun os started H enc _ F => by rw [OpenClaim.pre_eq_preRow]; exact equalHolds_lifted os started H enc F)
theorem equalHolds_plain (f : FuncId) (fn : Func) (hf : Tryd.pinned.checked.prog.funcNamed "sortes/sorteslaw06.EqualHolds" = some f) (hfn : Tryd.pinned.checked.prog.funcs[f]? = some fn) :
    true = Tryd.pinned.checked.prog.looks [] ∧ ∀ (j : Nat) t, fn.params[j]? = some t → Tryd.pinned.checked.prog.wantsStandIn t = false := by
  obtain rfl : f = 14 := Option.some.inj ((show Tryd.prog.funcNamed "sortes/sorteslaw06.EqualHolds" = some 14 by kernel_rfl).symm.trans hf) |>.symm
  obtain rfl : fn = Tryd.f14 := (Option.some.inj (Tryd.func14.symm.trans hfn)).symm
  refine ⟨by kernel_rfl, fun j t ht => ?_⟩
  have hall : Tryd.f14.params.toList.all (fun t => Tryd.prog.wantsStandIn t == false) = true := by kernel_rfl
  have := List.all_eq_true.1 hall t (by simpa using Array.mem_of_getElem? ht)
  exact eq_of_beq this
theorem equalHolds_holds : Rows.EqualHoldsCardSaid :=
  Claim7.holds_tied_plain_at .later [] _ _ _ _ equalHolds_said (fun _ h => by cases h) (by kernel_rfl) (fun _ h => by cases h) equalHolds_row_tie rfl ⟨rfl, rfl⟩ (by kernel_rfl) rfl equalHolds_plain (by kernel_rfl)
end Go.Proofs.YtjmdfipofgmakaaDoor
