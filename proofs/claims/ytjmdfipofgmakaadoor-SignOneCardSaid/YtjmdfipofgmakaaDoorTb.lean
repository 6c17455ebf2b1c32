/-
  Proved: sorteslaw05.SignOne returns true for every seed, every text and every number, never panics, and leaves its arguments as they were. Conditions: those of the given row (what the row's variables hold is what their initialisers lay; strings take at most the bytes that the row allows).
-/
import Derived.Test.YtjmdfipofgmakaaDoorCv
import Derived.Test.YtjmdfipofgmakaaDoorTa
namespace Go.Proofs.YtjmdfipofgmakaaDoor
open Go.ChangeShapes Go.WideShapes Go.ChangeAt Go.RowKit
set_option linter.unusedVariables false
set_option linter.unusedSimpArgs false

theorem i64_wf {n : Int} (h : (Lit.int .i64 n).wf = true) : I64 n := by
  have : -9223372036854775808 ≤ n ∧ n ≤ 9223372036854775807 := by simpa [Lit.wf, IntKind.min, IntKind.max, IntKind.signed, IntKind.bits] using h
  exact this
theorem args_str2int {W : World} {vals : Ty.Vals [.str, .str, .int .i64]} {args : List Value} (h : ArgsHold W [.str, .str, .int .i64] vals args) : args = [.string vals.1, .string vals.2.1, .int .i64 vals.2.2.1] ∧ I64 vals.2.2.1 := by
  obtain ⟨cs, a, rest, rfl, ⟨hc, _⟩, hv, cs2, a2, rest2, rfl, ⟨hc2, _⟩, hv2, cs3, a3, rest3, rfl, ⟨hc3, hk⟩, hv3, hr⟩ := h
  simp only [IsV] at hv hv2 hv3
  rw [hc] at hv
  rw [hc2] at hv2
  rw [hc3] at hv3
  injection hv with e1
  injection hv2 with e2
  injection hv3 with e3
  exact ⟨by rw [← e1, ← e2, ← e3, show rest3 = [] from hr], i64_wf hk⟩
theorem signOne_walk (W : World) (vals : Ty.Vals [.str, .str, .int .i64]) (args : List Value) (h : ArgsHold W [.str, .str, .int .i64] vals args) (hs : SmallAll [.str, .str, .int .i64] vals) (hL : laidMetH Tryd.prog Rows.signOneRow.laid W) (hO : W.ShapedOpen Tryd.prog) :
    Calls Tryd.prog 11 args.toArray W fun e W' => e = .returned (.bool true) ∧ Below W.heap.size W W' := by
  obtain ⟨ha, hk⟩ := args_str2int h
  rw [ha]
  have hb : vals.1.size ≤ reachBytes := hs.1
  refine (signOne_any vals.1 vals.2.1 vals.2.2.1 W (tab_of hL) (maxL_of hO) (by unfold reachBytes at hb; omega) hk).mono ?_
  rintro e w' ⟨h1, o⟩
  exact ⟨h1, o.below (fun _ h => h.elim) (Nat.le_refl _)⟩
theorem signOne_reads (os : Os) {H : Type} (enc : TypeId × Value → H) : ∃ places, DataW.whole enc Tryd.prog ((laidWorld os).forCall (fun _ _ => 0) ⟨#[], #[.string ⟨#[]⟩, .string ⟨#[]⟩, .int .i64 0], []⟩).memory Tryd.f11.params.toList Rows.signOneSpec.vars false #[Value.string ⟨#[]⟩, Value.string ⟨#[]⟩, Value.int .i64 0].toList 8 = some ([.lit (.string []), .lit (.string []), .lit (.int .i64 0)], [], places) :=
  ⟨[], by kernel_rfl⟩
set_option maxRecDepth 100000 in
theorem signOne_lifted (os : Os) (started : os.Started) (H : Type) (enc : TypeId × Value → H) (F : Stop.Interp) :
    ReturnsInHanded {} Tryd.checked os 11 .any ((OpenSpec.ofChange Rows.signOneSpec).preRow enc Tryd.prog Tryd.f11 Rows.signOneRow.domain false Rows.signOneRow.laid) (((OpenSpec.ofChange Rows.signOneSpec).at F).post enc Tryd.prog Tryd.f11 false true false false) := by
  obtain ⟨places, hx⟩ := signOne_reads os enc
  refine row_lifted 11 Tryd.f11 Rows.signOneSpec Rows.signOneRow.domain Rows.signOneRow.laid [.str, .str, .int .i64] 4 os started H enc F Tryd.func11 (by kernel_rfl) rfl rfl (by kernel_rfl) Tryd.underlying4 (by kernel_rfl) (by kernel_rfl) ?_
    (witness_row_at (enc := enc) (C := Tryd.checked) false (laidWorld os) #[.string ⟨#[]⟩, .string ⟨#[]⟩, .int .i64 0] rfl (by kernel_rfl) (by kernel_rfl) (by kernel_rfl)
      (OpenSpec.preRow_of_cond 8 hx (by kernel_rfl) (fun k hk => by cases hk) (by kernel_rfl) (laid_met5 os _))) signOne_walk
  intro ds hd
  match ds, hd with
  | [d1, d2, d3], _ => rfl
theorem signOne_said : Rows.SignOneSaid :=
  OpenClaim.holds_of_cond 11 Tryd.f11 rfl rfl rfl rfl rfl rfl rfl ⟨rfl, rfl, rfl, rfl, rfl⟩ rfl rfl rfl rfl rfl (by kernel_rfl) Tryd.func11 (by kernel_rfl)
    (of_decide_eq_true (by kernel_rfl)) (by unfold Func.isWrapper; first | (rw [if_pos (by decide +kernel)]; kernel_rfl) | (rw [if_neg (by decide +kernel)]; exact ⟨rfl, rfl⟩))
    (fun os started H enc _ F => by rw [OpenClaim.pre_eq_preRow]; exact signOne_lifted os started H enc F)
theorem signOne_plain (f : FuncId) (fn : Func) (hf : Tryd.pinned.checked.prog.funcNamed "sortes/sorteslaw05.SignOne" = some f) (hfn : Tryd.pinned.checked.prog.funcs[f]? = some fn) :
    true = Tryd.pinned.checked.prog.looks [] ∧ ∀ (j : Nat) t, fn.params[j]? = some t → Tryd.pinned.checked.prog.wantsStandIn t = false := by
  obtain rfl : f = 11 := Option.some.inj ((show Tryd.prog.funcNamed "sortes/sorteslaw05.SignOne" = some 11 by kernel_rfl).symm.trans hf) |>.symm
  obtain rfl : fn = Tryd.f11 := (Option.some.inj (Tryd.func11.symm.trans hfn)).symm
  refine ⟨by kernel_rfl, fun j t ht => ?_⟩
  have hall : Tryd.f11.params.toList.all (fun t => Tryd.prog.wantsStandIn t == false) = true := by kernel_rfl
  have := List.all_eq_true.1 hall t (by simpa using Array.mem_of_getElem? ht)
  exact eq_of_beq this
theorem signOne_holds : Rows.SignOneCardSaid :=
  Claim7.holds_tied_plain_at .later [] _ _ _ _ signOne_said (fun _ h => by cases h) (by kernel_rfl) (fun _ h => by cases h) signOne_row_tie rfl ⟨rfl, rfl⟩ (by kernel_rfl) rfl signOne_plain (by kernel_rfl)
end Go.Proofs.YtjmdfipofgmakaaDoor
