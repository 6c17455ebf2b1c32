/-
  Proved: sorteslaw05.SignChecks returns true for every secret, every text and every change, never panics, and leaves its arguments as they were. Conditions: those of the given row (what the row's variables hold is what their initialisers lay; strings take at most the bytes that the row allows).
-/
import Derived.Test.YtjmdfipofgmakaaDoorCx
import Derived.Test.YtjmdfipofgmakaaDoorTe
namespace Go.Proofs.YtjmdfipofgmakaaDoor
open Go.ChangeShapes Go.WideShapes Go.ChangeAt Go.RowKit
set_option linter.unusedVariables false
set_option linter.unusedSimpArgs false

theorem signChecks_walk (W : World) (vals : Ty.Vals [.int .i64, .str, chTy]) (args : List Value) (h : ArgsHold W [.int .i64, .str, chTy] vals args) (hs : SmallAll [.int .i64, .str, chTy] vals) (hL : laidMetH Tryd.prog Rows.signChecksRow.laid W) (hO : W.ShapedOpen Tryd.prog) :
    Calls Tryd.prog 9 args.toArray W fun e W' => e = .returned (.bool true) ∧ Below W.heap.size W W' := by
  obtain ⟨secret, text, q, _⟩ := vals
  obtain ⟨c0, v0, r0, rfl, h0, i0, c1, v1, r1, rfl, h1, i1, c2, v2, r2, rfl, h2, i2, rfl⟩ := h
  obtain ⟨rfl, k0⟩ := int_arg h0 i0
  obtain rfl : v1 = .string text := str_arg h1 i1
  obtain ⟨rfl, q0, q1, q2⟩ := chg_arg h2 i2
  refine (signChecks_any secret text q.1 q.2.1 q.2.2.1 q.2.2.2.1 q.2.2.2.2.1 W (tab_of hL) (maxL_of hO) k0 q0 q1 q2).mono ?_
  rintro e w' ⟨h1, o⟩
  exact ⟨h1, o.below (fun _ h => h.elim) (Nat.le_refl _)⟩
theorem signChecks_reads (os : Os) {H : Type} (enc : TypeId × Value → H) : ∃ places, DataW.whole enc Tryd.prog ((laidWorld os).forCall (fun _ _ => 0) ⟨#[], #[.int .i64 0, .string ⟨#[]⟩, .agg #[.int .i64 0, .int .i64 0, .int .i64 0, .string ⟨#[]⟩, .bool false]], []⟩).memory Tryd.f9.params.toList Rows.signChecksSpec.vars false (#[.int .i64 0, .string ⟨#[]⟩, .agg #[.int .i64 0, .int .i64 0, .int .i64 0, .string ⟨#[]⟩, .bool false]] : Array Value).toList 8 = some ([.lit (.int .i64 0), .lit (.string []), .agg [.lit (.int .i64 0), .lit (.int .i64 0), .lit (.int .i64 0), .lit (.string []), .lit (.bool false)]], [], places) :=
  ⟨[], by kernel_rfl⟩
set_option maxRecDepth 100000 in
theorem signChecks_lifted (os : Os) (started : os.Started) (H : Type) (enc : TypeId × Value → H) (F : Stop.Interp) :
    ReturnsInHanded {} Tryd.checked os 9 .any ((OpenSpec.ofChange Rows.signChecksSpec).preRow enc Tryd.prog Tryd.f9 Rows.signChecksRow.domain false Rows.signChecksRow.laid) (((OpenSpec.ofChange Rows.signChecksSpec).at F).post enc Tryd.prog Tryd.f9 false true false false) := by
  obtain ⟨places, hx⟩ := signChecks_reads os enc
  refine row_lifted 9 Tryd.f9 Rows.signChecksSpec Rows.signChecksRow.domain Rows.signChecksRow.laid [.int .i64, .str, chTy] 4 os started H enc F Tryd.func9 (by kernel_rfl) rfl rfl (by kernel_rfl) Tryd.underlying4 (by kernel_rfl) (by kernel_rfl) ?_
    (witness_row_at (enc := enc) (C := Tryd.checked) false (laidWorld os) #[.int .i64 0, .string ⟨#[]⟩, .agg #[.int .i64 0, .int .i64 0, .int .i64 0, .string ⟨#[]⟩, .bool false]] rfl (by kernel_rfl) (by kernel_rfl) (by kernel_rfl)
      (OpenSpec.preRow_of_cond 8 hx (by kernel_rfl) (fun k hk => by cases hk) (by kernel_rfl) (laid_met5 os _))) signChecks_walk
  intro ds hd
  match ds, hd with
  | [d1, d2, d3], _ => rfl
theorem signChecks_said : Rows.SignChecksSaid :=
  OpenClaim.holds_of_cond 9 Tryd.f9 rfl rfl rfl rfl rfl rfl rfl ⟨rfl, rfl, rfl, rfl, rfl⟩ rfl rfl rfl rfl rfl (by kernel_rfl) Tryd.func9 (by kernel_rfl)
    (of_decide_eq_true (by kernel_rfl)) (by unfold Func.isWrapper; first | (rw [if_pos (by decide +kernel)]; kernel_rfl) | (rw [if_neg (by decide +kernel)]; exact ⟨rfl, rfl⟩))
    (fun os started H enc _ F => by rw [OpenClaim.pre_eq_preRow]; exact signChecks_lifted os started H enc F)
theorem signChecks_plain (f : FuncId) (fn : Func) (hf : Tryd.pinned.checked.prog.funcNamed "sortes/sorteslaw05.SignChecks" = some f) (hfn : Tryd.pinned.checked.prog.funcs[f]? = some fn) :
    true = Tryd.pinned.checked.prog.looks [] ∧ ∀ (j : Nat) t, fn.params[j]? = some t → Tryd.pinned.checked.prog.wantsStandIn t = false := by
  obtain rfl : f = 9 := Option.some.inj ((show Tryd.prog.funcNamed "sortes/sorteslaw05.SignChecks" = some 9 by kernel_rfl).symm.trans hf) |>.symm
  obtain rfl : fn = Tryd.f9 := (Option.some.inj (Tryd.func9.symm.trans hfn)).symm
  refine ⟨by kernel_rfl, fun j t ht => ?_⟩
  have hall : Tryd.f9.params.toList.all (fun t => Tryd.prog.wantsStandIn t == false) = true := by kernel_rfl
  have := List.all_eq_true.1 hall t (by simpa using Array.mem_of_getElem? ht)
  exact eq_of_beq this
theorem signChecks_holds : Rows.SignChecksCardSaid :=
  Claim7.holds_tied_plain_at .later [] _ _ _ _ signChecks_said (fun _ h => by cases h) (by kernel_rfl) (fun _ h => by cases h) signChecks_row_tie rfl ⟨rfl, rfl⟩ (by kernel_rfl) rfl signChecks_plain (by kernel_rfl)
end Go.Proofs.YtjmdfipofgmakaaDoor
