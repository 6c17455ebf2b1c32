/-
  EqualFalse: walk.
  Proved: sorteslaw06.EqualFalse returns true for all numbers, never panics, and leaves its arguments as they were. Conditions: those of the given row (what the row's variables hold is what their initialisers lay; strings take at most the bytes that the row allows).
-/
import Derived.Test.YtoekhpnapnhefaaGreatDoorMJ
import Derived.Test.YtoekhpnapnhefaaGreatDoorME
namespace Go.Proofs.YtoekhpnapnhefaaGreatDoor
open Go.RowKit Go.Shelf
set_option linter.unusedVariables false
set_option linter.unusedSimpArgs false

set_option maxRecDepth 100000 in
set_option maxHeartbeats 4000000 in
theorem equalFalse_any (x0 y0 q0 q1 : Int) (w : World) (ht : Tab w) (hm : MaxL w) (hx : I64 x0) (hy : I64 y0) (h0 : I64 q0) (h1 : I64 q1) :
    Calls Tryz.prog 8 #[.int .i64 x0, .int .i64 y0, .agg #[.int .i64 q0, .int .i64 q1]] w fun e w' => e = .returned (.bool true) ∧ Only (fun _ => False) w w' := by
  have SA := Lib.hid (sanity6 (w.alloc (.cells [.int .i64 q0, .int .i64 q1].toArray 29)) (ht.only ((Only.refl _ w).alloc _)) (hm.only ((Only.refl _ w).alloc _)))
  have B := Lib.hid (At.new w 29 [.int .i64 q0, .int .i64 q1])
  have O := Lib.hid ((Only.refl (fun _ => False) w).alloc (.cells [.int .i64 q0, .int .i64 q1].toArray 29))
  have E1 := Lib.hid (fun W => relem6_any q0 W h0)
  have E2 := Lib.hid (fun W => relem6_any q1 W h1)
  have m1 := elemE_mem q0
  have m2 := elemE_mem q1
  generalize elemE q0 = g at *
  generalize elemE q1 = h at *
  have r1 := memB_range m1
  have r2 := memB_range m2
  have ig : I64 g := by unfold I64; omega
  have ih : I64 h := by unfold I64; omega
  have X1 := Lib.hid (fun W => rexpo6_any x0 W hx)
  have X2 := Lib.hid (fun W => rexpo6_any y0 W hy)
  have b1 : 0 ≤ x0 % 1152921504606845789 ∧ x0 % 1152921504606845789 < 1152921504606845789 := by omega
  have b2 : 0 ≤ y0 % 1152921504606845789 ∧ y0 % 1152921504606845789 < 1152921504606845789 := by omega
  have PR := Lib.hid (fun W (o : Only (fun _ => False) w W) => eprove_any x0 g h W (ht.only o) hx m1 m2)
  generalize y0 % 1152921504606845789 = j at *
  generalize x0 % 1152921504606845789 = i at *
  have hk := scalE_range wNonce [i, g, h]
  rw [show scalE wNonce [i, g, h] = provK i g h from rfl] at hk
  generalize provK i g h = k at *
  have VM := verE_made m1 m2 b1.1 hk.1
  have VF := verE_false (g := g) (h := h) (k := k) m1 m2 b1.1 b2.1 hk.1
  have rc := (@prov_range i g h k).1
  have rz := (@prov_range i g h k).2
  generalize provC i g h k = c at *
  generalize provZ i g h k = z at *
  have P1 := Lib.hid (fun W => pow_any g i 2305843009213691579 W (by omega) (by omega) ig b1.1 (by omega))
  have P2 := Lib.hid (fun W => pow_any h j 2305843009213691579 W (by omega) (by omega) ih b2.1 (by omega))
  have P3 := Lib.hid (fun W => pow_any h i 2305843009213691579 W (by omega) (by omega) ih b1.1 (by omega))
  rw [show pm g i.toNat 2305843009213691579 = pP g i from rfl] at P1
  rw [show pm h j.toNat 2305843009213691579 = pP h j from rfl] at P2
  rw [show pm h i.toNat 2305843009213691579 = pP h i from rfl] at P3
  have s1 := pP_range g i
  have s2 := pP_range h j
  have s3 := pP_range h i
  generalize pP g i = a at *
  generalize pP h j = b at *
  generalize pP h i = d at *
  have VE := Lib.hid (fun W (o : Only (fun _ => False) w W) => everify_any g a h b c z W (ht.only o) ig (i64_p s1) ih (i64_p s2) (i64_of rc (by omega)) (i64_of rz (by omega)))
  have P4 := Lib.hid (fun W => pow_any g z 2305843009213691579 W (by omega) (by omega) ig rz.1 (by omega))
  have P5 := Lib.hid (fun W => pow_any h z 2305843009213691579 W (by omega) (by omega) ih rz.1 (by omega))
  have P6 := Lib.hid (fun W => pow_any a (1152921504606845789 - c) 2305843009213691579 W (by omega) (by omega) (i64_p s1) (by omega) (by omega))
  have P7 := Lib.hid (fun W => pow_any b (1152921504606845789 - c) 2305843009213691579 W (by omega) (by omega) (i64_p s2) (by omega) (by omega))
  have P8 := Lib.hid (fun W => pow_any d (1152921504606845789 - c) 2305843009213691579 W (by omega) (by omega) (i64_p s3) (by omega) (by omega))
  rw [show pm g z.toNat 2305843009213691579 = pP g z from rfl] at P4
  rw [show pm h z.toNat 2305843009213691579 = pP h z from rfl] at P5
  rw [show pm a (1152921504606845789 - c).toNat 2305843009213691579 = pP a (1152921504606845789 - c) from rfl] at P6
  rw [show pm b (1152921504606845789 - c).toNat 2305843009213691579 = pP b (1152921504606845789 - c) from rfl] at P7
  rw [show pm d (1152921504606845789 - c).toNat 2305843009213691579 = pP d (1152921504606845789 - c) from rfl] at P8
  have t1 := pP_range g z
  have t2 := pP_range h z
  have t3 := pP_range a (1152921504606845789 - c)
  have t4 := pP_range b (1152921504606845789 - c)
  have t5 := pP_range d (1152921504606845789 - c)
  unfold sideE at VF
  generalize pP g z = gz at *
  generalize pP h z = hz at *
  generalize pP a (1152921504606845789 - c) = ac at *
  generalize pP b (1152921504606845789 - c) = bc at *
  generalize pP d (1152921504606845789 - c) = dc at *
  have M1 := Lib.hid (fun W => mul_only gz ac 2305843009213691579 W (by omega) (by omega) (i64_p t1) (i64_p t3))
  have M2 := Lib.hid (fun W => mul_only hz bc 2305843009213691579 W (by omega) (by omega) (i64_p t2) (i64_p t4))
  have M3 := Lib.hid (fun W => mul_only hz dc 2305843009213691579 W (by omega) (by omega) (i64_p t2) (i64_p t5))
  have u1 : 0 ≤ gz * ac % 2305843009213691579 ∧ gz * ac % 2305843009213691579 < 2305843009213691579 := by omega
  have u2 : 0 ≤ hz * bc % 2305843009213691579 ∧ hz * bc % 2305843009213691579 < 2305843009213691579 := by omega
  have u3 : 0 ≤ hz * dc % 2305843009213691579 ∧ hz * dc % 2305843009213691579 < 2305843009213691579 := by omega
  generalize gz * ac % 2305843009213691579 = r at *
  generalize hz * bc % 2305843009213691579 = s at *
  generalize hz * dc % 2305843009213691579 = t at *
  have C1 := Lib.hid (fun W (o : Only (fun _ => False) w W) => rchal6_any g [a, h, b, r, s] (some ⟨W.heap.size, 0, none⟩) 6 6 (W.alloc (.cells (ints [g, a, h, b, r, s]).toArray 3)) rfl (by omega) (ints_at' (At.new W _ _)) (i64_cons ig (i64_cons (i64_p s1) (i64_cons ih (i64_cons (i64_p s2) (i64_cons (i64_p u1) (i64_cons (i64_p u2) i64_nil)))))))
  have C2 := Lib.hid (fun W (o : Only (fun _ => False) w W) => rchal6_any g [a, h, d, r, t] (some ⟨W.heap.size, 0, none⟩) 6 6 (W.alloc (.cells (ints [g, a, h, d, r, t]).toArray 3)) rfl (by omega) (ints_at' (At.new W _ _)) (i64_cons ig (i64_cons (i64_p s1) (i64_cons ih (i64_cons (i64_p s3) (i64_cons (i64_p u1) (i64_cons (i64_p u3) i64_nil)))))))
  generalize scalE wEqual [g, a, h, b, r, s] = S1 at *
  generalize scalE wEqual [g, a, h, d, r, t] = S2 at *
  have n1 : (0 : Int) ≤ c := rc.1
  have n2 : c < 1152921504606845789 := rc.2
  have v1 : IntKind.i64.wrap (1152921504606845789 - c) = 1152921504606845789 - c := IntWalk.i64_in _ (by omega)
  have HVM := Lib.hid VM
  have HVF := Lib.hid VF
  clear VM VF ht hm hx hy h0 h1 m1 m2 r1 r2 b1 b2 hk rc rz s1 s2 s3 ig ih t1 t2 t3 t4 t5 u1 u2 u3
  go_enter Tryz.func8, Tryz.ntmps8
  go_wp2_with fail
  refine SA.out.mono ?_
  rintro e w1 ⟨rfl, oo⟩
  replace O := Lib.hid (O.out.trans oo (fun _ _ h => h))
  replace B := Lib.hid (B.out.only oo (fun h => h))
  clear oo SA
  obtain ⟨X, F, FM⟩ := fam w1
  have NE := FM.ne
  have c0 := FM.cell (B.out.cell (i := 0) rfl)
  have c1 := FM.cell (B.out.cell (i := 1) rfl)
  go_wp2_with fail
  refine FM.region (by kernel_rfl) (by kernel_rfl) ?_
  repeat (first | go_big_quiet_step ((first | (go_at_call 26; with_reducible exact FM.call_same (E1.out _)) | (go_at_call 26; with_reducible exact FM.call_same (E2.out _)))) | quiet_step (fail))
  refine wpQuiet_nil ?_
  intro x1
  clear c0 c1
  replace O := Lib.hid (O.out.trans (FM.own x1) (fun _ _ h => h))
  generalize F x1 = w2 at O ⊢
  clear FM NE B
  go_wp2_with fail
  refine (X1.out _).mono ?_
  rintro e ws1 ⟨rfl, rfl⟩
  go_wp2_with fail
  refine (X2.out _).mono ?_
  rintro e ws2 ⟨rfl, rfl⟩
  go_wp2_with fail
  refine (P1.out _).mono ?_
  rintro e wc3 ⟨rfl, oo⟩
  replace O := Lib.hid (O.out.trans oo (fun _ _ h => h))
  clear oo
  go_wp2_with fail
  refine (P2.out _).mono ?_
  rintro e wc4 ⟨rfl, oo⟩
  replace O := Lib.hid (O.out.trans oo (fun _ _ h => h))
  clear oo
  go_wp2_with fail
  refine (P3.out _).mono ?_
  rintro e wc5 ⟨rfl, oo⟩
  replace O := Lib.hid (O.out.trans oo (fun _ _ h => h))
  clear oo
  go_wp2_with fail
  refine (PR.out _ O.out).mono ?_
  rintro e w3 ⟨rfl, oo⟩
  replace O := Lib.hid (O.out.trans oo (fun _ _ h => h))
  clear oo
  have A0 := Lib.hid (At.new w3 26 [.int .i64 c, .int .i64 z])
  have O0 := Lib.hid (O.out.alloc (.cells [.int .i64 c, .int .i64 z].toArray 26))
  by_cases hbd : b = d
  · subst hbd
    rw [HVM.out] at VE
    have c0 := A0.out.cell (i := 0) rfl
    have c1 := A0.out.cell (i := 1) rfl
    go_wp2_with fail
    refine (VE.out _ O0.out).mono ?_
    rintro e w5 ⟨rfl, oo⟩
    replace O := Lib.hid (O0.out.trans oo (fun _ _ h => h))
    clear oo
    go_wp2_with fail
    go_ret
    exact ⟨rfl, O.out⟩
  · have e1 : (b == d) = false := by rw [beq_eq_false_iff_ne]; exact hbd
    rw [HVF.out] at VE
    clear hbd
    go_wp2_with fail
    obtain ⟨w4, hw4⟩ : ∃ w4, w4 = w3.alloc (.cells #[.int .i64 c, .int .i64 z] 26) := ⟨_, rfl⟩
    rw [← hw4]
    have A : Hid (At w4 w3.heap.size 26 [.int .i64 c, .int .i64 z]) := Lib.hid (by rw [hw4]; exact A0.out)
    have O4 : Hid (Only (fun _ => False) w w4) := Lib.hid (by rw [hw4]; exact O0.out)
    generalize w3.heap.size = gp at *
    clear hw4 A0 O0 O
    obtain ⟨X, F, FM⟩ := fam w4
    have NE := FM.ne
    have c0 := FM.cell (A.out.cell (i := 0) rfl)
    have c1 := FM.cell (A.out.cell (i := 1) rfl)
    refine FM.region (by kernel_rfl) (by kernel_rfl) ?_
    repeat (first | go_big_quiet_step ((first | (go_at_call_of 32 (Value.int IntKind.i64 z); with_reducible exact FM.call (P4.out _)) | (go_at_call 32; with_reducible exact FM.call (P6.out _)) | (go_at_call 33; with_reducible exact FM.call (M1.out _)))) | quiet_step (fail))
    refine wpQuiet_nil ?_
    intro x2
    clear c0 c1
    replace A := Lib.hid (A.out.only (FM.own x2) (fun h => h))
    replace O4 := Lib.hid (O4.out.trans (FM.own x2) (fun _ _ h => h))
    generalize F x2 = w5 at A O4 ⊢
    clear FM NE
    obtain ⟨X, F, FM⟩ := fam w5
    have NE := FM.ne
    have c0 := FM.cell (A.out.cell (i := 0) rfl)
    have c1 := FM.cell (A.out.cell (i := 1) rfl)
    go_wp2_with fail
    refine FM.region (by kernel_rfl) (by kernel_rfl) ?_
    repeat (first | go_big_quiet_step ((first | (go_at_call_of 32 (Value.int IntKind.i64 z); with_reducible exact FM.call (P5.out _)) | (go_at_call 32; with_reducible exact FM.call (P7.out _)) | (go_at_call 33; with_reducible exact FM.call (M2.out _)))) | quiet_step (fail))
    refine wpQuiet_nil ?_
    intro x3
    clear c0 c1
    replace A := Lib.hid (A.out.only (FM.own x3) (fun h => h))
    replace O4 := Lib.hid (O4.out.trans (FM.own x3) (fun _ _ h => h))
    generalize F x3 = w6 at A O4 ⊢
    clear FM NE
    obtain ⟨X, F, FM⟩ := fam w6
    have NE := FM.ne
    have c0 := FM.cell (A.out.cell (i := 0) rfl)
    have c1 := FM.cell (A.out.cell (i := 1) rfl)
    go_wp2_with fail
    refine FM.region (by kernel_rfl) (by kernel_rfl) ?_
    repeat (first | go_big_quiet_step ((first | (go_at_call_of 32 (Value.int IntKind.i64 z); with_reducible exact FM.call (P5.out _)) | (go_at_call 32; with_reducible exact FM.call (P8.out _)) | (go_at_call 33; with_reducible exact FM.call (M3.out _)))) | quiet_step (fail))
    refine wpQuiet_nil ?_
    intro x4
    clear c0 c1
    replace A := Lib.hid (A.out.only (FM.own x4) (fun h => h))
    replace O4 := Lib.hid (O4.out.trans (FM.own x4) (fun _ _ h => h))
    generalize F x4 = w7 at A O4 ⊢
    clear FM NE
    go_wp2_with fail
    refine (C1.out _ O4.out).mono ?_
    rintro e w8 ⟨rfl, oo⟩
    replace O4 := Lib.hid ((O4.out.alloc _).trans oo (fun _ _ h => h))
    replace A := Lib.hid ((A.out.alloc _).only oo (fun h => h))
    clear oo
    go_wp2_with fail
    refine (C2.out _ O4.out).mono ?_
    rintro e w9 ⟨rfl, oo⟩
    replace O4 := Lib.hid ((O4.out.alloc _).trans oo (fun _ _ h => h))
    replace A := Lib.hid ((A.out.alloc _).only oo (fun h => h))
    clear oo
    have c0 := A.out.cell (i := 0) rfl
    have c1 := A.out.cell (i := 1) rfl
    by_cases hS : S1 = S2
    · subst hS
      rw [beq_self_eq_true] at VE
      go_wp2_with fail
      refine (VE.out _ O4.out).mono ?_
      rintro e w10 ⟨rfl, oo⟩
      replace O4 := Lib.hid (O4.out.trans oo (fun _ _ h => h))
      clear oo
      go_wp2_with fail
      go_ret
      exact ⟨rfl, O4.out⟩
    · have e2 : (S1 == S2) = false := by rw [beq_eq_false_iff_ne]; exact hS
      rw [e2] at VE
      clear hS
      go_wp2_with fail
      refine (VE.out _ O4.out).mono ?_
      rintro e w10 ⟨rfl, oo⟩
      replace O4 := Lib.hid (O4.out.trans oo (fun _ _ h => h))
      clear oo
      go_wp2_with fail
      go_ret
      exact ⟨rfl, O4.out⟩
end Go.Proofs.YtoekhpnapnhefaaGreatDoor

namespace Go.Proofs.YtoekhpnapnhefaaGreatDoor
open Go.ChangeShapes Go.WideShapes Go.ChangeAt Go.RowKit
set_option linter.unusedVariables false
set_option linter.unusedSimpArgs false

theorem equalFalse_walk (W : World) (vals : Ty.Vals [.int .i64, .int .i64, .arr 2 (.int .i64)]) (args : List Value) (h : ArgsHold W [.int .i64, .int .i64, .arr 2 (.int .i64)] vals args) (hs : SmallAll [.int .i64, .int .i64, .arr 2 (.int .i64)] vals) (hL : laidMetH Tryz.prog Rows.equalFalseRow.laid W) (hO : W.ShapedOpen Tryz.prog) :
    Calls Tryz.prog 8 args.toArray W fun e W' => e = .returned (.bool true) ∧ Below W.heap.size W W' := by
  obtain ⟨x, y, q, _⟩ := vals
  obtain ⟨c0, v0, r0, rfl, h0, i0, c1, v1, r1, rfl, h1, i1, c2, v2, r2, rfl, h2, i2, rfl⟩ := h
  obtain ⟨rfl, k0⟩ := int_arg h0 i0
  obtain ⟨rfl, k1⟩ := int_arg h1 i1
  obtain ⟨rfl, hq, kq⟩ := arr_ints h2 i2
  have hq' : List.length (α := Int) q = 2 := hq
  match q, hq', kq with
  | [a, b], _, kq =>
    refine (equalFalse_any x y a b W (tab_of hL) (maxL_of hO) k0 k1 (kq a (.head _)) (kq b (.tail _ (.head _)))).mono ?_
    rintro e w' ⟨h1, o⟩
    exact ⟨h1, o.below (fun _ h => h.elim) (Nat.le_refl _)⟩
theorem equalFalse_reads (os : Os) {H : Type} (enc : TypeId × Value → H) : ∃ places, DataW.whole enc Tryz.prog ((laidWorld os).forCall (fun _ _ => 0) ⟨#[], #[.int .i64 0, .int .i64 0, .agg #[.int .i64 0, .int .i64 0]], []⟩).memory Tryz.f8.params.toList Rows.equalFalseSpec.vars false (#[.int .i64 0, .int .i64 0, .agg #[.int .i64 0, .int .i64 0]] : Array Value).toList 8 = some ([.lit (.int .i64 0), .lit (.int .i64 0), .agg [.lit (.int .i64 0), .lit (.int .i64 0)]], [], places) :=
  ⟨[], by kernel_rfl⟩
set_option maxRecDepth 100000 in
theorem equalFalse_lifted (os : Os) (started : os.Started) (H : Type) (enc : TypeId × Value → H) (F : Stop.Interp) :
    ReturnsInHanded {} Tryz.checked os 8 .any ((OpenSpec.ofChange Rows.equalFalseSpec).preRow enc Tryz.prog Tryz.f8 Rows.equalFalseRow.domain false Rows.equalFalseRow.laid) (((OpenSpec.ofChange Rows.equalFalseSpec).at F).post enc Tryz.prog Tryz.f8 false true false false) := by
  obtain ⟨places, hx⟩ := equalFalse_reads os enc
  refine row_lifted 8 Tryz.f8 Rows.equalFalseSpec Rows.equalFalseRow.domain Rows.equalFalseRow.laid [.int .i64, .int .i64, .arr 2 (.int .i64)] 4 os started H enc F Tryz.func8 (by kernel_rfl) rfl rfl (by kernel_rfl) Tryz.underlying4 (by kernel_rfl) (by kernel_rfl) ?_
    (witness_row_at (enc := enc) (C := Tryz.checked) false (laidWorld os) #[.int .i64 0, .int .i64 0, .agg #[.int .i64 0, .int .i64 0]] rfl (by kernel_rfl) (by kernel_rfl) (by kernel_rfl)
      (OpenSpec.preRow_of_cond 8 hx (by kernel_rfl) (fun k hk => by cases hk) (by kernel_rfl) (laid_met5 os _))) equalFalse_walk
  intro ds hd
  match ds, hd with
  | [d1, d2, d3], _ => rfl
theorem equalFalse_said : Rows.EqualFalseSaid :=
  OpenClaim.holds_of_cond 8 Tryz.f8 rfl rfl rfl rfl rfl rfl rfl ⟨rfl, rfl, rfl, rfl, rfl⟩ rfl rfl rfl rfl rfl (by kernel_rfl) Tryz.func8 (by kernel_rfl)
    (of_decide_eq_true (by kernel_rfl)) (by unfold Func.isWrapper; first | (rw [if_pos (by decide +kernel)]; kernel_rfl) | (rw [if_neg (by decide +kernel)]; exact ⟨rfl, rfl⟩))
    (fun os started H enc _ F => by rw [OpenClaim.pre_eq_preRow]; exact equalFalse_lifted os started H enc F)
theorem equalFalse_plain (f : FuncId) (fn : Func) (hf : Tryz.pinned.checked.prog.funcNamed "sortes/sorteslaw06.EqualFalse" = some f) (hfn : Tryz.pinned.checked.prog.funcs[f]? = some fn) :
    true = Tryz.pinned.checked.prog.looks [] ∧ ∀ (j : Nat) t, fn.params[j]? = some t → Tryz.pinned.checked.prog.wantsStandIn t = false := by
  obtain rfl : f = 8 := Option.some.inj ((show Tryz.prog.funcNamed "sortes/sorteslaw06.EqualFalse" = some 8 by kernel_rfl).symm.trans hf) |>.symm
  obtain rfl : fn = Tryz.f8 := (Option.some.inj (Tryz.func8.symm.trans hfn)).symm
  refine ⟨by kernel_rfl, fun j t ht => ?_⟩
  have hall : Tryz.f8.params.toList.all (fun t => Tryz.prog.wantsStandIn t == false) = true := by kernel_rfl
  have := List.all_eq_true.1 hall t (by simpa using Array.mem_of_getElem? ht)
  exact eq_of_beq this
theorem equalFalse_holds : Rows.EqualFalseCardSaid :=
  Claim7.holds_tied_plain_at .later [] _ _ _ _ equalFalse_said (fun _ h => by cases h) (by kernel_rfl) (fun _ h => by cases h) equalFalse_row_tie rfl ⟨rfl, rfl⟩ (by kernel_rfl) rfl equalFalse_plain (by kernel_rfl)
end Go.Proofs.YtoekhpnapnhefaaGreatDoor
