/-
  Proved: sorteslaw05.SignChallenge returns true for every secret and all two texts, never panics, and leaves its arguments as they were. Conditions: those of the given row (what the row's variables hold is what their initialisers lay; strings take at most the bytes that the row allows).
-/
import Derived.Test.YtjmdfipofgmakaaDoorCx
import Derived.Test.YtjmdfipofgmakaaDoorTd
namespace Go.Proofs.YtjmdfipofgmakaaDoor
open Go.ChangeShapes Go.WideShapes Go.ChangeAt Go.RowKit
set_option linter.unusedVariables false
set_option linter.unusedSimpArgs false

theorem signChallenge_walk (W : World) (vals : Ty.Vals [.int .i64, .str, .str]) (args : List Value) (h : ArgsHold W [.int .i64, .str, .str] vals args) (hs : SmallAll [.int .i64, .str, .str] vals) (hL : laidMetH Tryd.prog Rows.signChallengeRow.laid W) (hO : W.ShapedOpen Tryd.prog) :
    Calls Tryd.prog 13 args.toArray W fun e W' => e = .returned (.bool true) ∧ Below W.heap.size W W' := by
  obtain ⟨secret, a, b, _⟩ := vals
  obtain ⟨c0, v0, r0, rfl, h0, i0, c1, v1, r1, rfl, h1, i1, c2, v2, r2, rfl, h2, i2, rfl⟩ := h
  obtain ⟨rfl, k0⟩ := int_arg h0 i0
  obtain rfl : v1 = .string a := str_arg h1 i1
  obtain rfl : v2 = .string b := str_arg h2 i2
  refine (signChallenge_any secret a b W (tab_of hL) (maxL_of hO) k0).mono ?_
  rintro e w' ⟨h1, o⟩
  exact ⟨h1, o.below (fun _ h => h.elim) (Nat.le_refl _)⟩
theorem signChallenge_reads (os : Os) {H : Type} (enc : TypeId × Value → H) : ∃ places, DataW.whole enc Tryd.prog ((laidWorld os).forCall (fun _ _ => 0) ⟨#[], #[.int .i64 0, .string ⟨#[]⟩, .string ⟨#[]⟩], []⟩).memory Tryd.f13.params.toList Rows.signChallengeSpec.vars false (#[.int .i64 0, .string ⟨#[]⟩, .string ⟨#[]⟩] : Array Value).toList 8 = some ([.lit (.int .i64 0), .lit (.string []), .lit (.string [])], [], places) :=
  ⟨[], by kernel_rfl⟩
set_option maxRecDepth 100000 in
theorem signChallenge_lifted (os : Os) (started : os.Started) (H : Type) (enc : TypeId × Value → H) (F : Stop.Interp) :
    ReturnsInHanded {} Tryd.checked os 13 .any ((OpenSpec.ofChange Rows.signChallengeSpec).preRow enc Tryd.prog Tryd.f13 Rows.signChallengeRow.domain false Rows.signChallengeRow.laid) (((OpenSpec.ofChange Rows.signChallengeSpec).at F).post enc Tryd.prog Tryd.f13 false true false false) := by
  obtain ⟨places, hx⟩ := signChallenge_reads os enc
  refine row_lifted 13 Tryd.f13 Rows.signChallengeSpec Rows.signChallengeRow.domain Rows.signChallengeRow.laid [.int .i64, .str, .str] 4 os started H enc F Tryd.func13 (by kernel_rfl) rfl rfl (by kernel_rfl) Tryd.underlying4 (by kernel_rfl) (by kernel_rfl) ?_
    (witness_row_at (enc := enc) (C := Tryd.checked) false (laidWorld os) #[.int .i64 0, .string ⟨#[]⟩, .string ⟨#[]⟩] rfl (by kernel_rfl) (by kernel_rfl) (by kernel_rfl)
      (OpenSpec.preRow_of_cond 8 hx (by kernel_rfl) (fun k hk => by cases hk) (by kernel_rfl) (laid_met5 os _))) signChallenge_walk
  intro ds hd
  match ds, hd with
  | [d1, d2, d3], _ => rfl
theorem signChallenge_said : Rows.SignChallengeSaid :=
  OpenClaim.holds_of_cond 13 Tryd.f13 rfl rfl rfl rfl rfl rfl rfl ⟨rfl, rfl, rfl, rfl, rfl⟩ rfl rfl rfl rfl rfl (by kernel_rfl) Tryd.func13 (by kernel_rfl)
    (of_decide_eq_true (by kernel_rfl)) (by unfold Func.isWrapper; first | (rw [if_pos (by decide +kernel)]; kernel_rfl) | (rw [if_neg (by decide +kernel)]; exact ⟨rfl, rfl⟩))
    (fun os started H enc _ F => by rw [OpenClaim.pre_eq_preRow]; exact signChallenge_lifted os started H enc F)
theorem signChallenge_plain (f : FuncId) (fn : Func) (hf : Tryd.pinned.checked.prog.funcNamed "sortes/sorteslaw05.SignChallenge" = some f) (hfn : Tryd.pinned.checked.prog.funcs[f]? = some fn) :
    true = Tryd.pinned.checked.prog.looks [] ∧ ∀ (j : Nat) t, fn.params[j]? = some t → Tryd.pinned.checked.prog.wantsStandIn t = false := by
  obtain rfl : f = 13 := Option.some.inj ((show Tryd.prog.funcNamed "sortes/sorteslaw05.SignChallenge" = some 13 by kernel_rfl).symm.trans hf) |>.symm
  obtain rfl : fn = Tryd.f13 := (Option.some.inj (Tryd.func13.symm.trans hfn)).symm
  refine ⟨by kernel_rfl, fun j t ht => ?_⟩
  have hall : Tryd.f13.params.toList.all (fun t => Tryd.prog.wantsStandIn t == false) = true := by kernel_rfl
  have := List.all_eq_true.1 hall t (by simpa using Array.mem_of_getElem? ht)
  exact eq_of_beq this
theorem signChallenge_holds : Rows.SignChallengeCardSaid :=
  Claim7.holds_tied_plain_at .later [] _ _ _ _ signChallenge_said (fun _ h => by cases h) (by kernel_rfl) (fun _ h => by cases h) signChallenge_row_tie rfl ⟨rfl, rfl⟩ (by kernel_rfl) rfl signChallenge_plain (by kernel_rfl)
end Go.Proofs.YtjmdfipofgmakaaDoor
