/-
  Proved: sorteslaw05.SignKeys returns true for every seed, never panics, and leaves its arguments as they were. Conditions: those of the given row (what the row's variables hold is what their initialisers lay; strings take at most the bytes that the row allows).
-/
import Derived.Test.YtjmdfipofgmakaaDoorCx
import Derived.Test.YtjmdfipofgmakaaDoorTc
namespace Go.Proofs.YtjmdfipofgmakaaDoor
open Go.ChangeShapes Go.WideShapes Go.ChangeAt Go.RowKit
set_option linter.unusedVariables false
set_option linter.unusedSimpArgs false

theorem signKeys_walk (W : World) (vals : Ty.Vals [.str]) (args : List Value) (h : ArgsHold W [.str] vals args) (hs : SmallAll [.str] vals) (hL : laidMetH Tryd.prog Rows.signKeysRow.laid W) (hO : W.ShapedOpen Tryd.prog) :
    Calls Tryd.prog 6 args.toArray W fun e W' => e = .returned (.bool true) ∧ Below W.heap.size W W' := by
  obtain ⟨seed, _⟩ := vals
  obtain ⟨c0, v0, r0, rfl, h0, i0, rfl⟩ := h
  obtain rfl : v0 = .string seed := str_arg h0 i0
  refine (signKeys_any seed W (tab_of hL) (maxL_of hO)).mono ?_
  rintro e w' ⟨h1, o⟩
  exact ⟨h1, o.below (fun _ h => h.elim) (Nat.le_refl _)⟩
theorem signKeys_reads (os : Os) {H : Type} (enc : TypeId × Value → H) : ∃ places, DataW.whole enc Tryd.prog ((laidWorld os).forCall (fun _ _ => 0) ⟨#[], #[.string ⟨#[]⟩], []⟩).memory Tryd.f6.params.toList Rows.signKeysSpec.vars false (#[.string ⟨#[]⟩] : Array Value).toList 8 = some ([.lit (.string [])], [], places) :=
  ⟨[], by kernel_rfl⟩
set_option maxRecDepth 100000 in
theorem signKeys_lifted (os : Os) (started : os.Started) (H : Type) (enc : TypeId × Value → H) (F : Stop.Interp) :
    ReturnsInHanded {} Tryd.checked os 6 .any ((OpenSpec.ofChange Rows.signKeysSpec).preRow enc Tryd.prog Tryd.f6 Rows.signKeysRow.domain false Rows.signKeysRow.laid) (((OpenSpec.ofChange Rows.signKeysSpec).at F).post enc Tryd.prog Tryd.f6 false true false false) := by
  obtain ⟨places, hx⟩ := signKeys_reads os enc
  refine row_lifted 6 Tryd.f6 Rows.signKeysSpec Rows.signKeysRow.domain Rows.signKeysRow.laid [.str] 4 os started H enc F Tryd.func6 (by kernel_rfl) rfl rfl (by kernel_rfl) Tryd.underlying4 (by kernel_rfl) (by kernel_rfl) ?_
    (witness_row_at (enc := enc) (C := Tryd.checked) false (laidWorld os) #[.string ⟨#[]⟩] rfl (by kernel_rfl) (by kernel_rfl) (by kernel_rfl)
      (OpenSpec.preRow_of_cond 8 hx (by kernel_rfl) (fun k hk => by cases hk) (by kernel_rfl) (laid_met5 os _))) signKeys_walk
  intro ds hd
  match ds, hd with
  | [d1], _ => rfl
theorem signKeys_said : Rows.SignKeysSaid :=
  OpenClaim.holds_of_cond 6 Tryd.f6 rfl rfl rfl rfl rfl rfl rfl ⟨rfl, rfl, rfl, rfl, rfl⟩ rfl rfl rfl rfl rfl (by kernel_rfl) Tryd.func6 (by kernel_rfl)
    (of_decide_eq_true (by kernel_rfl)) (by unfold Func.isWrapper; first | (rw [if_pos (by decide +kernel)]; kernel_rfl) | (rw [if_neg (by decide +kernel)]; exact ⟨rfl, rfl⟩))
    (fun os started H enc _ F => by rw [OpenClaim.pre_eq_preRow]; exact signKeys_lifted os started H enc F)
theorem signKeys_plain (f : FuncId) (fn : Func) (hf : Tryd.pinned.checked.prog.funcNamed "sortes/sorteslaw05.SignKeys" = some f) (hfn : Tryd.pinned.checked.prog.funcs[f]? = some fn) :
    true = Tryd.pinned.checked.prog.looks [] ∧ ∀ (j : Nat) t, fn.params[j]? = some t → Tryd.pinned.checked.prog.wantsStandIn t = false := by
  obtain rfl : f = 6 := Option.some.inj ((show Tryd.prog.funcNamed "sortes/sorteslaw05.SignKeys" = some 6 by kernel_rfl).symm.trans hf) |>.symm
  obtain rfl : fn = Tryd.f6 := (Option.some.inj (Tryd.func6.symm.trans hfn)).symm
  refine ⟨by kernel_rfl, fun j t ht => ?_⟩
  have hall : Tryd.f6.params.toList.all (fun t => Tryd.prog.wantsStandIn t == false) = true := by kernel_rfl
  have := List.all_eq_true.1 hall t (by simpa using Array.mem_of_getElem? ht)
  exact eq_of_beq this
theorem signKeys_holds : Rows.SignKeysCardSaid :=
  Claim7.holds_tied_plain_at .later [] _ _ _ _ signKeys_said (fun _ h => by cases h) (by kernel_rfl) (fun _ h => by cases h) signKeys_row_tie rfl ⟨rfl, rfl⟩ (by kernel_rfl) rfl signKeys_plain (by kernel_rfl)
end Go.Proofs.YtjmdfipofgmakaaDoor
