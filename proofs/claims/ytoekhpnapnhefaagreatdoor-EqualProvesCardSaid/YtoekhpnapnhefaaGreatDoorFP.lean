/-
  EqualProves: walk.
  Proved: sorteslaw06.EqualProves returns true for every secret number and all numbers of the bases, never panics, and leaves its arguments as they were. Conditions: those of the given row (what the row's variables hold is what their initialisers lay; strings take at most the bytes that the row allows).
-/
import Derived.Test.YtoekhpnapnhefaaGreatDoorMJ
import Derived.Test.YtoekhpnapnhefaaGreatDoorME
namespace Go.Proofs.YtoekhpnapnhefaaGreatDoor
open Go.RowKit Go.Shelf
set_option linter.unusedVariables false
set_option linter.unusedSimpArgs false

/-- Prove and the reference's Prove answer the same, for any numbers -/
theorem prove_both (secret g h : Int) (hs : I64 secret) (hg : I64 g) (hh : I64 h) : ∃ c z : Int,
    (∀ w, Tab w → Calls Tryz.prog 27 #[.int .i64 secret, .int .i64 g, .int .i64 h] w fun e w' => e = .returned (.agg #[.int .i64 c, .int .i64 z]) ∧ Only (fun _ => False) w w') ∧
    (∀ w, Calls Tryz.prog 28 #[.int .i64 secret, .int .i64 g, .int .i64 h] w fun e w' => e = .returned (.agg #[.int .i64 c, .int .i64 z]) ∧ Only (fun _ => False) w w') := by
  cases hm : (memB g && memB h)
  · exact ⟨0, 0, fun w _ => eprove_no secret g h w hg hh hm, fun w => rprove6_no secret g h w hg hh hm⟩
  · have hm2 := hm
    rw [Bool.and_eq_true] at hm2
    exact ⟨_, _, fun w ht => eprove_any secret g h w ht hs hm2.1 hm2.2, fun w => rprove6_any secret g h w hs hg hh hm⟩
set_option maxRecDepth 100000 in
set_option maxHeartbeats 2000000 in
theorem equalProves_any (secret g h : Int) (w : World) (ht : Tab w) (hm : MaxL w) (hs : I64 secret) (hg : I64 g) (hh : I64 h) :
    Calls Tryz.prog 5 #[.int .i64 secret, .int .i64 g, .int .i64 h] w fun e w' => e = .returned (.bool true) ∧ Only (fun _ => False) w w' := by
  have SA := Lib.hid (sanity6 w ht hm)
  have O := Lib.hid (Only.refl (fun _ => False) w)
  have E1 := Lib.hid (fun W => relem6_any g W hg)
  have E2 := Lib.hid (fun W => relem6_any h W hh)
  have r1 := memB_range (elemE_mem g)
  have r2 := memB_range (elemE_mem h)
  generalize elemE g = x at *
  generalize elemE h = y at *
  have ix : I64 x := by unfold I64; omega
  have iy : I64 y := by unfold I64; omega
  obtain ⟨c1, z1, a1, b1⟩ := prove_both secret x y hs ix iy
  obtain ⟨c2, z2, a2, b2⟩ := prove_both secret g y hs hg iy
  obtain ⟨c3, z3, a3, b3⟩ := prove_both secret x h hs ix hh
  have A1 := Lib.hid (fun W (o : Only (fun _ => False) w W) => a1 W (ht.only o))
  have A2 := Lib.hid (fun W (o : Only (fun _ => False) w W) => a2 W (ht.only o))
  have A3 := Lib.hid (fun W (o : Only (fun _ => False) w W) => a3 W (ht.only o))
  have B1 := Lib.hid b1
  have B2 := Lib.hid b2
  have B3 := Lib.hid b3
  clear a1 a2 a3 b1 b2 b3 ht hm hs hg hh ix iy r1 r2
  go_enter Tryz.func5, Tryz.ntmps5
  go_wp2_with fail
  refine (SA.out).mono ?_
  rintro e wc1 ⟨rfl, oo⟩
  replace O := Lib.hid (O.out.trans oo (fun _ _ h => h))
  clear oo
  go_wp2_with fail
  refine (E1.out _).mono ?_
  rintro e ws2 ⟨rfl, rfl⟩
  go_wp2_with fail
  refine (E2.out _).mono ?_
  rintro e ws3 ⟨rfl, rfl⟩
  go_wp2_with fail
  refine (A1.out _ O.out).mono ?_
  rintro e wc4 ⟨rfl, oo⟩
  replace O := Lib.hid (O.out.trans oo (fun _ _ h => h))
  clear oo
  go_wp2_with fail
  refine (B1.out _).mono ?_
  rintro e wa1 ⟨rfl, oo⟩
  replace O := Lib.hid (O.out.trans oo (fun _ _ h => h))
  clear oo
  go_wp2_with (refine wpl_bin (o := ⟨some 25, _, _, _, _, _⟩) rfl .eql 26 26 (.tmp 20) (.tmp 24) rfl _ _ _ rfl rfl (guard_proof _ _ _ _ _ _ _) (eql_proof_same _ _ _) ?_)
  refine (A2.out _ O.out).mono ?_
  rintro e wc5 ⟨rfl, oo⟩
  replace O := Lib.hid (O.out.trans oo (fun _ _ h => h))
  clear oo
  go_wp2_with fail
  refine (B2.out _).mono ?_
  rintro e wa2 ⟨rfl, oo⟩
  replace O := Lib.hid (O.out.trans oo (fun _ _ h => h))
  clear oo
  go_wp2_with (refine wpl_bin (o := ⟨some 36, _, _, _, _, _⟩) rfl .eql 26 26 (.tmp 31) (.tmp 35) rfl _ _ _ rfl rfl (guard_proof _ _ _ _ _ _ _) (eql_proof_same _ _ _) ?_)
  refine (A3.out _ O.out).mono ?_
  rintro e wc6 ⟨rfl, oo⟩
  replace O := Lib.hid (O.out.trans oo (fun _ _ h => h))
  clear oo
  go_wp2_with fail
  refine (B3.out _).mono ?_
  rintro e wa3 ⟨rfl, oo⟩
  replace O := Lib.hid (O.out.trans oo (fun _ _ h => h))
  clear oo
  go_wp2_with (refine wpl_bin (o := ⟨some 47, _, _, _, _, _⟩) rfl .eql 26 26 (.tmp 42) (.tmp 46) rfl _ _ _ rfl rfl (guard_proof _ _ _ _ _ _ _) (eql_proof_same _ _ _) ?_)
  go_ret
  exact ⟨rfl, O.out⟩
end Go.Proofs.YtoekhpnapnhefaaGreatDoor

namespace Go.Proofs.YtoekhpnapnhefaaGreatDoor
open Go.ChangeShapes Go.WideShapes Go.ChangeAt Go.RowKit
set_option linter.unusedVariables false
set_option linter.unusedSimpArgs false

theorem equalProves_walk (W : World) (vals : Ty.Vals [.int .i64, .int .i64, .int .i64]) (args : List Value) (h : ArgsHold W [.int .i64, .int .i64, .int .i64] vals args) (hs : SmallAll [.int .i64, .int .i64, .int .i64] vals) (hL : laidMetH Tryz.prog Rows.equalProvesRow.laid W) (hO : W.ShapedOpen Tryz.prog) :
    Calls Tryz.prog 5 args.toArray W fun e W' => e = .returned (.bool true) ∧ Below W.heap.size W W' := by
  obtain ⟨secret, g, q, _⟩ := vals
  obtain ⟨c0, v0, r0, rfl, h0, i0, c1, v1, r1, rfl, h1, i1, c2, v2, r2, rfl, h2, i2, rfl⟩ := h
  obtain ⟨rfl, k0⟩ := int_arg h0 i0
  obtain ⟨rfl, k1⟩ := int_arg h1 i1
  obtain ⟨rfl, k2⟩ := int_arg h2 i2
  refine (equalProves_any secret g q W (tab_of hL) (maxL_of hO) k0 k1 k2).mono ?_
  rintro e w' ⟨h1, o⟩
  exact ⟨h1, o.below (fun _ h => h.elim) (Nat.le_refl _)⟩
theorem equalProves_reads (os : Os) {H : Type} (enc : TypeId × Value → H) : ∃ places, DataW.whole enc Tryz.prog ((laidWorld os).forCall (fun _ _ => 0) ⟨#[], #[.int .i64 0, .int .i64 0, .int .i64 0], []⟩).memory Tryz.f5.params.toList Rows.equalProvesSpec.vars false (#[.int .i64 0, .int .i64 0, .int .i64 0] : Array Value).toList 8 = some ([.lit (.int .i64 0), .lit (.int .i64 0), .lit (.int .i64 0)], [], places) :=
  ⟨[], by kernel_rfl⟩
set_option maxRecDepth 100000 in
theorem equalProves_lifted (os : Os) (started : os.Started) (H : Type) (enc : TypeId × Value → H) (F : Stop.Interp) :
    ReturnsInHanded {} Tryz.checked os 5 .any ((OpenSpec.ofChange Rows.equalProvesSpec).preRow enc Tryz.prog Tryz.f5 Rows.equalProvesRow.domain false Rows.equalProvesRow.laid) (((OpenSpec.ofChange Rows.equalProvesSpec).at F).post enc Tryz.prog Tryz.f5 false true false false) := by
  obtain ⟨places, hx⟩ := equalProves_reads os enc
  refine row_lifted 5 Tryz.f5 Rows.equalProvesSpec Rows.equalProvesRow.domain Rows.equalProvesRow.laid [.int .i64, .int .i64, .int .i64] 4 os started H enc F Tryz.func5 (by kernel_rfl) rfl rfl (by kernel_rfl) Tryz.underlying4 (by kernel_rfl) (by kernel_rfl) ?_
    (witness_row_at (enc := enc) (C := Tryz.checked) false (laidWorld os) #[.int .i64 0, .int .i64 0, .int .i64 0] rfl (by kernel_rfl) (by kernel_rfl) (by kernel_rfl)
      (OpenSpec.preRow_of_cond 8 hx (by kernel_rfl) (fun k hk => by cases hk) (by kernel_rfl) (laid_met5 os _))) equalProves_walk
  intro ds hd
  match ds, hd with
  | [d1, d2, d3], _ => rfl
theorem equalProves_said : Rows.EqualProvesSaid :=
  OpenClaim.holds_of_cond 5 Tryz.f5 rfl rfl rfl rfl rfl rfl rfl ⟨rfl, rfl, rfl, rfl, rfl⟩ rfl rfl rfl rfl rfl (by kernel_rfl) Tryz.func5 (by kernel_rfl)
    (of_decide_eq_true (by kernel_rfl)) (by unfold Func.isWrapper; first | (rw [if_pos (by decide +kernel)]; kernel_rfl) | (rw [if_neg (by decide +kernel)]; exact ⟨rfl, rfl⟩))
    (fun os started H enc _ F => by rw [OpenClaim.pre_eq_preRow]; exact equalProves_lifted os started H enc F)
theorem equalProves_plain (f : FuncId) (fn : Func) (hf : Tryz.pinned.checked.prog.funcNamed "sortes/sorteslaw06.EqualProves" = some f) (hfn : Tryz.pinned.checked.prog.funcs[f]? = some fn) :
    true = Tryz.pinned.checked.prog.looks [] ∧ ∀ (j : Nat) t, fn.params[j]? = some t → Tryz.pinned.checked.prog.wantsStandIn t = false := by
  obtain rfl : f = 5 := Option.some.inj ((show Tryz.prog.funcNamed "sortes/sorteslaw06.EqualProves" = some 5 by kernel_rfl).symm.trans hf) |>.symm
  obtain rfl : fn = Tryz.f5 := (Option.some.inj (Tryz.func5.symm.trans hfn)).symm
  refine ⟨by kernel_rfl, fun j t ht => ?_⟩
  have hall : Tryz.f5.params.toList.all (fun t => Tryz.prog.wantsStandIn t == false) = true := by kernel_rfl
  have := List.all_eq_true.1 hall t (by simpa using Array.mem_of_getElem? ht)
  exact eq_of_beq this
theorem equalProves_holds : Rows.EqualProvesCardSaid :=
  Claim7.holds_tied_plain_at .later [] _ _ _ _ equalProves_said (fun _ h => by cases h) (by kernel_rfl) (fun _ h => by cases h) equalProves_row_tie rfl ⟨rfl, rfl⟩ (by kernel_rfl) rfl equalProves_plain (by kernel_rfl)
end Go.Proofs.YtoekhpnapnhefaaGreatDoor
