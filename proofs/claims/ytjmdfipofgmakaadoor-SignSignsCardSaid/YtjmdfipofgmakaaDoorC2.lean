/-
  Proved: sorteslaw05.SignSigns returns true for every secret and every text, never panics, and leaves its arguments as they were. Conditions: those of the given row (what the row's variables hold is what their initialisers lay; strings take at most the bytes that the row allows).
-/
import Derived.Test.YtjmdfipofgmakaaDoorCx
import Derived.Test.YtjmdfipofgmakaaDoorTc
namespace Go.Proofs.YtjmdfipofgmakaaDoor
open Go.ChangeShapes Go.WideShapes Go.ChangeAt Go.RowKit
set_option linter.unusedVariables false
set_option linter.unusedSimpArgs false

theorem signSigns_walk (W : World) (vals : Ty.Vals [.int .i64, .str]) (args : List Value) (h : ArgsHold W [.int .i64, .str] vals args) (hs : SmallAll [.int .i64, .str] vals) (hL : laidMetH Tryd.prog Rows.signSignsRow.laid W) (hO : W.ShapedOpen Tryd.prog) :
    Calls Tryd.prog 7 args.toArray W fun e W' => e = .returned (.bool true) ∧ Below W.heap.size W W' := by
  obtain ⟨secret, text, _⟩ := vals
  obtain ⟨c0, v0, r0, rfl, h0, i0, c1, v1, r1, rfl, h1, i1, rfl⟩ := h
  obtain ⟨rfl, k0⟩ := int_arg h0 i0
  obtain rfl : v1 = .string text := str_arg h1 i1
  refine (signSigns_any secret text W (tab_of hL) (maxL_of hO) k0).mono ?_
  rintro e w' ⟨h1, o⟩
  exact ⟨h1, o.below (fun _ h => h.elim) (Nat.le_refl _)⟩
theorem signSigns_reads (os : Os) {H : Type} (enc : TypeId × Value → H) : ∃ places, DataW.whole enc Tryd.prog ((laidWorld os).forCall (fun _ _ => 0) ⟨#[], #[.int .i64 0, .string ⟨#[]⟩], []⟩).memory Tryd.f7.params.toList Rows.signSignsSpec.vars false (#[.int .i64 0, .string ⟨#[]⟩] : Array Value).toList 8 = some ([.lit (.int .i64 0), .lit (.string [])], [], places) :=
  ⟨[], by kernel_rfl⟩
set_option maxRecDepth 100000 in
theorem signSigns_lifted (os : Os) (started : os.Started) (H : Type) (enc : TypeId × Value → H) (F : Stop.Interp) :
    ReturnsInHanded {} Tryd.checked os 7 .any ((OpenSpec.ofChange Rows.signSignsSpec).preRow enc Tryd.prog Tryd.f7 Rows.signSignsRow.domain false Rows.signSignsRow.laid) (((OpenSpec.ofChange Rows.signSignsSpec).at F).post enc Tryd.prog Tryd.f7 false true false false) := by
  obtain ⟨places, hx⟩ := signSigns_reads os enc
  refine row_lifted 7 Tryd.f7 Rows.signSignsSpec Rows.signSignsRow.domain Rows.signSignsRow.laid [.int .i64, .str] 4 os started H enc F Tryd.func7 (by kernel_rfl) rfl rfl (by kernel_rfl) Tryd.underlying4 (by kernel_rfl) (by kernel_rfl) ?_
    (witness_row_at (enc := enc) (C := Tryd.checked) false (laidWorld os) #[.int .i64 0, .string ⟨#[]⟩] rfl (by kernel_rfl) (by kernel_rfl) (by kernel_rfl)
      (OpenSpec.preRow_of_cond 8 hx (by kernel_rfl) (fun k hk => by cases hk) (by kernel_rfl) (laid_met5 os _))) signSigns_walk
  intro ds hd
  match ds, hd with
  | [d1, d2], _ => rfl
theorem signSigns_said : Rows.SignSignsSaid :=
  OpenClaim.holds_of_cond 7 Tryd.f7 rfl rfl rfl rfl rfl rfl rfl ⟨rfl, rfl, rfl, rfl, rfl⟩ rfl rfl rfl rfl rfl (by kernel_rfl) Tryd.func7 (by kernel_rfl)
    (of_decide_eq_true (by kernel_rfl)) (by unfold Func.isWrapper; first | (rw [if_pos (by decide +kernel)]; kernel_rfl) | (rw [if_neg (by decide +kernel)]; exact ⟨rfl, rfl⟩))
    (fun os started H enc _ F => by rw [OpenClaim.pre_eq_preRow]; exact signSigns_lifted os started H enc F)
theorem signSigns_plain (f : FuncId) (fn : Func) (hf : Tryd.pinned.checked.prog.funcNamed "sortes/sorteslaw05.SignSigns" = some f) (hfn : Tryd.pinned.checked.prog.funcs[f]? = some fn) :
    true = Tryd.pinned.checked.prog.looks [] ∧ ∀ (j : Nat) t, fn.params[j]? = some t → Tryd.pinned.checked.prog.wantsStandIn t = false := by
  obtain rfl : f = 7 := Option.some.inj ((show Tryd.prog.funcNamed "sortes/sorteslaw05.SignSigns" = some 7 by kernel_rfl).symm.trans hf) |>.symm
  obtain rfl : fn = Tryd.f7 := (Option.some.inj (Tryd.func7.symm.trans hfn)).symm
  refine ⟨by kernel_rfl, fun j t ht => ?_⟩
  have hall : Tryd.f7.params.toList.all (fun t => Tryd.prog.wantsStandIn t == false) = true := by kernel_rfl
  have := List.all_eq_true.1 hall t (by simpa using Array.mem_of_getElem? ht)
  exact eq_of_beq this
theorem signSigns_holds : Rows.SignSignsCardSaid :=
  Claim7.holds_tied_plain_at .later [] _ _ _ _ signSigns_said (fun _ h => by cases h) (by kernel_rfl) (fun _ h => by cases h) signSigns_row_tie rfl ⟨rfl, rfl⟩ (by kernel_rfl) rfl signSigns_plain (by kernel_rfl)
end Go.Proofs.YtjmdfipofgmakaaDoor
