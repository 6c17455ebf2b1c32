/-
  EqualMany: walk.
  Proved: sorteslaw06.EqualMany returns true for all numbers, never panics, and leaves its arguments as they were. Conditions: those of the given row (what the row's variables hold is what their initialisers lay; strings take at most the bytes that the row allows).
-/
import Derived.Test.YtoekhpnapnhefaaGreatDoorMJ
import Derived.Test.YtoekhpnapnhefaaGreatDoorME
namespace Go.Proofs.YtoekhpnapnhefaaGreatDoor
open Go.RowKit Go.Shelf
set_option linter.unusedVariables false
set_option linter.unusedSimpArgs false

set_option maxRecDepth 100000 in
set_option maxHeartbeats 2000000 in
theorem equalMany_any (secret q0 q1 k0 : Int) (w : World) (ht : Tab w) (hm : MaxL w) (hs : I64 secret) (h0 : I64 q0) (h1 : I64 q1) (h2 : I64 k0) :
    Calls Tryz.prog 6 #[.int .i64 secret, .agg #[.int .i64 q0, .int .i64 q1], .int .i64 k0] w fun e w' => e = .returned (.bool true) ∧ Only (fun _ => False) w w' := by
  have SA := Lib.hid (sanity6 (w.alloc (.cells [.int .i64 q0, .int .i64 q1].toArray 29)) (ht.only ((Only.refl _ w).alloc _)) (hm.only ((Only.refl _ w).alloc _)))
  have B := Lib.hid (At.new w 29 [.int .i64 q0, .int .i64 q1])
  have O := Lib.hid ((Only.refl (fun _ => False) w).alloc (.cells [.int .i64 q0, .int .i64 q1].toArray 29))
  have E1 := Lib.hid (fun W => relem6_any q0 W h0)
  have E2 := Lib.hid (fun W => relem6_any q1 W h1)
  have m1 := elemE_mem q0
  have m2 := elemE_mem q1
  generalize elemE q0 = g at *
  generalize elemE q1 = h at *
  have r1 := memB_range m1
  have r2 := memB_range m2
  have ig : I64 g := by unfold I64; omega
  have ih : I64 h := by unfold I64; omega
  have X1 := Lib.hid (fun W => rexpo6_any secret W hs)
  have X2 := Lib.hid (fun W => rexpo6_any k0 W h2)
  have b1 : 0 ≤ secret % 1152921504606845789 ∧ secret % 1152921504606845789 < 1152921504606845789 := by omega
  have b2 : 0 ≤ k0 % 1152921504606845789 ∧ k0 % 1152921504606845789 < 1152921504606845789 := by omega
  have PW := Lib.hid (fun W => rprovew_any secret g h (k0 % 1152921504606845789) W hs ig ih b2)
  generalize k0 % 1152921504606845789 = k at *
  generalize secret % 1152921504606845789 = i at *
  have VM := verE_made m1 m2 b1.1 b2.1
  have rc := (@prov_range i g h k).1
  have rz := (@prov_range i g h k).2
  generalize provC i g h k = c at *
  generalize provZ i g h k = z at *
  have P1 := Lib.hid (fun W => pow_any g i 2305843009213691579 W (by omega) (by omega) ig b1.1 (by omega))
  have P2 := Lib.hid (fun W => pow_any h i 2305843009213691579 W (by omega) (by omega) ih b1.1 (by omega))
  rw [show pm g i.toNat 2305843009213691579 = pP g i from rfl] at P1
  rw [show pm h i.toNat 2305843009213691579 = pP h i from rfl] at P2
  have s1 := pP_range g i
  have s2 := pP_range h i
  generalize pP g i = a at *
  generalize pP h i = b at *
  have VE := Lib.hid (fun W (o : Only (fun _ => False) w W) => everify_any g a h b c z W (ht.only o) ig (i64_p s1) ih (i64_p s2) (i64_of rc (by omega)) (i64_of rz (by omega)))
  rw [VM] at VE
  clear ht hm hs h0 h1 h2 m1 m2 r1 r2 b1 b2 VM rc rz s1 s2 ig ih
  go_enter Tryz.func6, Tryz.ntmps6
  go_wp2_with fail
  refine SA.out.mono ?_
  rintro e w1 ⟨rfl, oo⟩
  replace O := Lib.hid (O.out.trans oo (fun _ _ h => h))
  replace B := Lib.hid (B.out.only oo (fun h => h))
  clear oo SA
  obtain ⟨X, F, FM⟩ := fam w1
  have NE := FM.ne
  have c0 := FM.cell (B.out.cell (i := 0) rfl)
  have c1 := FM.cell (B.out.cell (i := 1) rfl)
  go_wp2_with fail
  refine FM.region (by kernel_rfl) (by kernel_rfl) ?_
  repeat (first | go_big_quiet_step ((first | (go_at_call 26; with_reducible exact FM.call_same (E1.out _)) | (go_at_call 26; with_reducible exact FM.call_same (E2.out _)))) | quiet_step (fail))
  refine wpQuiet_nil ?_
  intro x1
  clear c0 c1
  replace O := Lib.hid (O.out.trans (FM.own x1) (fun _ _ h => h))
  generalize F x1 = w2 at O ⊢
  clear FM NE B
  go_wp2_with fail
  refine (X1.out _).mono ?_
  rintro e ws1 ⟨rfl, rfl⟩
  go_wp2_with fail
  refine (X2.out _).mono ?_
  rintro e ws2 ⟨rfl, rfl⟩
  go_wp2_with fail
  refine (PW.out _).mono ?_
  rintro e w3 ⟨rfl, oo⟩
  replace O := Lib.hid (O.out.trans oo (fun _ _ h => h))
  clear oo
  go_wp2_with fail
  have A0 := Lib.hid (At.new w3 26 [.int .i64 c, .int .i64 z])
  have O0 := Lib.hid (O.out.alloc (.cells [.int .i64 c, .int .i64 z].toArray 26))
  obtain ⟨w4, hw4⟩ : ∃ w4, w4 = w3.alloc (.cells #[.int .i64 c, .int .i64 z] 26) := ⟨_, rfl⟩
  rw [← hw4]
  have A : Hid (At w4 w3.heap.size 26 [.int .i64 c, .int .i64 z]) := Lib.hid (by rw [hw4]; exact A0.out)
  have O4 : Hid (Only (fun _ => False) w w4) := Lib.hid (by rw [hw4]; exact O0.out)
  clear hw4 A0 O0 O
  obtain ⟨X, F, FM⟩ := fam w4
  have NE := FM.ne
  have c0 := FM.cell (A.out.cell (i := 0) rfl)
  have c1 := FM.cell (A.out.cell (i := 1) rfl)
  have OX := Lib.hid (fun x => O4.out.trans (FM.own x) (fun _ _ h => h))
  refine FM.region (by kernel_rfl) (by kernel_rfl) ?_
  repeat (first | go_big_quiet_step ((first | (go_at_call_of 32 (Value.int IntKind.i64 g); with_reducible exact FM.call (P1.out _)) | (go_at_call 32; with_reducible exact FM.call (P2.out _)) | (go_at_call 31; with_reducible exact FM.call (VE.out _ (OX.out _))))) | quiet_step (fail))
  refine wpQuiet_nil ?_
  intro x2
  go_wp2_with fail
  go_ret
  exact ⟨rfl, OX.out x2⟩
end Go.Proofs.YtoekhpnapnhefaaGreatDoor

namespace Go.Proofs.YtoekhpnapnhefaaGreatDoor
open Go.ChangeShapes Go.WideShapes Go.ChangeAt Go.RowKit
set_option linter.unusedVariables false
set_option linter.unusedSimpArgs false

theorem equalMany_walk (W : World) (vals : Ty.Vals [.int .i64, .arr 2 (.int .i64), .int .i64]) (args : List Value) (h : ArgsHold W [.int .i64, .arr 2 (.int .i64), .int .i64] vals args) (hs : SmallAll [.int .i64, .arr 2 (.int .i64), .int .i64] vals) (hL : laidMetH Tryz.prog Rows.equalManyRow.laid W) (hO : W.ShapedOpen Tryz.prog) :
    Calls Tryz.prog 6 args.toArray W fun e W' => e = .returned (.bool true) ∧ Below W.heap.size W W' := by
  obtain ⟨x, q, k, _⟩ := vals
  obtain ⟨c0, v0, r0, rfl, h0, i0, c1, v1, r1, rfl, h1, i1, c2, v2, r2, rfl, h2, i2, rfl⟩ := h
  obtain ⟨rfl, k0⟩ := int_arg h0 i0
  obtain ⟨rfl, hq, kq⟩ := arr_ints h1 i1
  obtain ⟨rfl, k2⟩ := int_arg h2 i2
  have hq' : List.length (α := Int) q = 2 := hq
  match q, hq', kq with
  | [a, b], _, kq =>
    refine (equalMany_any x a b k W (tab_of hL) (maxL_of hO) k0 (kq a (.head _)) (kq b (.tail _ (.head _))) k2).mono ?_
    rintro e w' ⟨h1, o⟩
    exact ⟨h1, o.below (fun _ h => h.elim) (Nat.le_refl _)⟩
theorem equalMany_reads (os : Os) {H : Type} (enc : TypeId × Value → H) : ∃ places, DataW.whole enc Tryz.prog ((laidWorld os).forCall (fun _ _ => 0) ⟨#[], #[.int .i64 0, .agg #[.int .i64 0, .int .i64 0], .int .i64 0], []⟩).memory Tryz.f6.params.toList Rows.equalManySpec.vars false (#[.int .i64 0, .agg #[.int .i64 0, .int .i64 0], .int .i64 0] : Array Value).toList 8 = some ([.lit (.int .i64 0), .agg [.lit (.int .i64 0), .lit (.int .i64 0)], .lit (.int .i64 0)], [], places) :=
  ⟨[], by kernel_rfl⟩
set_option maxRecDepth 100000 in
theorem equalMany_lifted (os : Os) (started : os.Started) (H : Type) (enc : TypeId × Value → H) (F : Stop.Interp) :
    ReturnsInHanded {} Tryz.checked os 6 .any ((OpenSpec.ofChange Rows.equalManySpec).preRow enc Tryz.prog Tryz.f6 Rows.equalManyRow.domain false Rows.equalManyRow.laid) (((OpenSpec.ofChange Rows.equalManySpec).at F).post enc Tryz.prog Tryz.f6 false true false false) := by
  obtain ⟨places, hx⟩ := equalMany_reads os enc
  refine row_lifted 6 Tryz.f6 Rows.equalManySpec Rows.equalManyRow.domain Rows.equalManyRow.laid [.int .i64, .arr 2 (.int .i64), .int .i64] 4 os started H enc F Tryz.func6 (by kernel_rfl) rfl rfl (by kernel_rfl) Tryz.underlying4 (by kernel_rfl) (by kernel_rfl) ?_
    (witness_row_at (enc := enc) (C := Tryz.checked) false (laidWorld os) #[.int .i64 0, .agg #[.int .i64 0, .int .i64 0], .int .i64 0] rfl (by kernel_rfl) (by kernel_rfl) (by kernel_rfl)
      (OpenSpec.preRow_of_cond 8 hx (by kernel_rfl) (fun k hk => by cases hk) (by kernel_rfl) (laid_met5 os _))) equalMany_walk
  intro ds hd
  match ds, hd with
  | [d1, d2, d3], _ => rfl
theorem equalMany_said : Rows.EqualManySaid :=
  OpenClaim.holds_of_cond 6 Tryz.f6 rfl rfl rfl rfl rfl rfl rfl ⟨rfl, rfl, rfl, rfl, rfl⟩ rfl rfl rfl rfl rfl (by kernel_rfl) Tryz.func6 (by kernel_rfl)
    (of_decide_eq_true (by kernel_rfl)) (by unfold Func.isWrapper; first | (rw [if_pos (by decide +kernel)]; kernel_rfl) | (rw [if_neg (by decide +kernel)]; exact ⟨rfl, rfl⟩))
    (fun os started H enc _ F => by rw [OpenClaim.pre_eq_preRow]; exact equalMany_lifted os started H enc F)
theorem equalMany_plain (f : FuncId) (fn : Func) (hf : Tryz.pinned.checked.prog.funcNamed "sortes/sorteslaw06.EqualMany" = some f) (hfn : Tryz.pinned.checked.prog.funcs[f]? = some fn) :
    true = Tryz.pinned.checked.prog.looks [] ∧ ∀ (j : Nat) t, fn.params[j]? = some t → Tryz.pinned.checked.prog.wantsStandIn t = false := by
  obtain rfl : f = 6 := Option.some.inj ((show Tryz.prog.funcNamed "sortes/sorteslaw06.EqualMany" = some 6 by kernel_rfl).symm.trans hf) |>.symm
  obtain rfl : fn = Tryz.f6 := (Option.some.inj (Tryz.func6.symm.trans hfn)).symm
  refine ⟨by kernel_rfl, fun j t ht => ?_⟩
  have hall : Tryz.f6.params.toList.all (fun t => Tryz.prog.wantsStandIn t == false) = true := by kernel_rfl
  have := List.all_eq_true.1 hall t (by simpa using Array.mem_of_getElem? ht)
  exact eq_of_beq this
theorem equalMany_holds : Rows.EqualManyCardSaid :=
  Claim7.holds_tied_plain_at .later [] _ _ _ _ equalMany_said (fun _ h => by cases h) (by kernel_rfl) (fun _ h => by cases h) equalMany_row_tie rfl ⟨rfl, rfl⟩ (by kernel_rfl) rfl equalMany_plain (by kernel_rfl)
end Go.Proofs.YtoekhpnapnhefaaGreatDoor
