/-
  EqualOnly: walk.
  Proved: sorteslaw06.EqualOnly returns true for all numbers, never panics, and leaves its arguments as they were. Conditions: those of the given row (what the row's variables hold is what their initialisers lay; strings take at most the bytes that the row allows).
-/
import Derived.Test.YtjmdfipofgmakaaDoorMF
import Derived.Test.YtjmdfipofgmakaaDoorME
namespace Go.Proofs.YtjmdfipofgmakaaDoor
open Go.RowKit Go.Shelf
set_option linter.unusedVariables false
set_option linter.unusedSimpArgs false

set_option maxRecDepth 100000 in
set_option maxHeartbeats 2000000 in
theorem equalOnly_any (x y q0 q1 q2 q3 : Int) (w : World) (ht : Tab w) (hm : MaxL w) (hx : I64 x) (hy : I64 y) (h0 : I64 q0) (h1 : I64 q1) (h2 : I64 q2) (h3 : I64 q3) :
    Calls Tryd.prog 15 #[.int .i64 x, .int .i64 y, .agg #[.int .i64 q0, .int .i64 q1, .int .i64 q2, .int .i64 q3]] w fun e w' => e = .returned (.bool true) ∧ Only (fun _ => False) w w' := by
  have SA := Lib.hid (sanity6 (w.alloc (.cells [.int .i64 q0, .int .i64 q1, .int .i64 q2, .int .i64 q3].toArray 78)) (ht.only ((Only.refl _ w).alloc _)) (hm.only ((Only.refl _ w).alloc _)))
  have B := Lib.hid (At.new w 78 [.int .i64 q0, .int .i64 q1, .int .i64 q2, .int .i64 q3])
  have O := Lib.hid ((Only.refl (fun _ => False) w).alloc (.cells [.int .i64 q0, .int .i64 q1, .int .i64 q2, .int .i64 q3].toArray 78))
  have E1 := Lib.hid (fun W => relem6_any q0 W h0)
  have E2 := Lib.hid (fun W => relem6_any q1 W h1)
  have m1 := elemE_mem q0
  have m2 := elemE_mem q1
  generalize elemE q0 = g at *
  generalize elemE q1 = h at *
  have r1 := memB_range m1
  have r2 := memB_range m2
  have X1 := Lib.hid (fun W => rexpo6_any x W hx)
  have X2 := Lib.hid (fun W => rexpo6_any y W hy)
  have X3 := Lib.hid (fun W => rexpo6_any q2 W h2)
  have X4 := Lib.hid (fun W => rexpo6_any q3 W h3)
  have b1 : 0 ≤ x % 1152921504606845789 ∧ x % 1152921504606845789 < 1152921504606845789 := by omega
  have b2 : 0 ≤ y % 1152921504606845789 ∧ y % 1152921504606845789 < 1152921504606845789 := by omega
  have b3 : 0 ≤ q2 % 1152921504606845789 ∧ q2 % 1152921504606845789 < 1152921504606845789 := by omega
  have b4 : 0 ≤ q3 % 1152921504606845789 ∧ q3 % 1152921504606845789 < 1152921504606845789 := by omega
  generalize x % 1152921504606845789 = i at *
  generalize y % 1152921504606845789 = j at *
  generalize q2 % 1152921504606845789 = k at *
  generalize q3 % 1152921504606845789 = c at *
  have MU := Lib.hid (fun W => mul_only c i 1152921504606845789 W (by omega) (by omega) (i64_of b4 (by omega)) (i64_of b1 (by omega)))
  have Y1 := @eqn_yes g i k c m1 b1.1 b3.1 b4.1
  have Y2 := fun h1 hij => @eqn_iff h i j k c m2 h1 b1.1 b1.2 b2.1 b2.2 b3.1 b4.1 b4.2 hij
  have bd : 0 ≤ c * i % 1152921504606845789 ∧ c * i % 1152921504606845789 < 1152921504606845789 := by omega
  generalize c * i % 1152921504606845789 = d at *
  have AD := Lib.hid (fun W => add_any k d 1152921504606845789 W (by omega) (by omega) (i64_of b3 (by omega)) (i64_of bd (by omega)))
  have bz : 0 ≤ (k + d) % 1152921504606845789 ∧ (k + d) % 1152921504606845789 < 1152921504606845789 := by omega
  generalize (k + d) % 1152921504606845789 = z at *
  have P1 := Lib.hid (fun W => pow_any g z 2305843009213691579 W (by omega) (by omega) (by unfold I64; omega) bz.1 (by omega))
  have P2 := Lib.hid (fun W => pow_any g k 2305843009213691579 W (by omega) (by omega) (by unfold I64; omega) b3.1 (by omega))
  have P3 := Lib.hid (fun W => pow_any g i 2305843009213691579 W (by omega) (by omega) (by unfold I64; omega) b1.1 (by omega))
  have P5 := Lib.hid (fun W => pow_any h z 2305843009213691579 W (by omega) (by omega) (by unfold I64; omega) bz.1 (by omega))
  have P6 := Lib.hid (fun W => pow_any h k 2305843009213691579 W (by omega) (by omega) (by unfold I64; omega) b3.1 (by omega))
  have P7 := Lib.hid (fun W => pow_any h j 2305843009213691579 W (by omega) (by omega) (by unfold I64; omega) b2.1 (by omega))
  rw [show pm g z.toNat 2305843009213691579 = pP g z from rfl] at P1
  rw [show pm g k.toNat 2305843009213691579 = pP g k from rfl] at P2
  rw [show pm g i.toNat 2305843009213691579 = pP g i from rfl] at P3
  rw [show pm h z.toNat 2305843009213691579 = pP h z from rfl] at P5
  rw [show pm h k.toNat 2305843009213691579 = pP h k from rfl] at P6
  rw [show pm h j.toNat 2305843009213691579 = pP h j from rfl] at P7
  have s1 := pP_range g i
  have s2 := pP_range h j
  have s3 := pP_range g k
  have s4 := pP_range h k
  generalize pP g z = pgz at *
  generalize pP g k = pgk at *
  generalize pP g i = pgi at *
  generalize pP h z = phz at *
  generalize pP h k = phk at *
  generalize pP h j = phj at *
  have P4 := Lib.hid (fun W => pow_any pgi c 2305843009213691579 W (by omega) (by omega) (i64_of s1 (by omega)) b4.1 (by omega))
  have P8 := Lib.hid (fun W => pow_any phj c 2305843009213691579 W (by omega) (by omega) (i64_of s2 (by omega)) b4.1 (by omega))
  rw [show pm pgi c.toNat 2305843009213691579 = pP pgi c from rfl] at P4
  rw [show pm phj c.toNat 2305843009213691579 = pP phj c from rfl] at P8
  have t1 := pP_range pgi c
  have t2 := pP_range phj c
  generalize pP pgi c = u at *
  generalize pP phj c = v at *
  have M1 := Lib.hid (fun W => mul_only pgk u 2305843009213691579 W (by omega) (by omega) (i64_of s3 (by omega)) (i64_of t1 (by omega)))
  have M2 := Lib.hid (fun W => mul_only phk v 2305843009213691579 W (by omega) (by omega) (i64_of s4 (by omega)) (i64_of t2 (by omega)))
  rw [← Y1] at M1
  generalize phk * v % 2305843009213691579 = ww at *
  have HY := Lib.hid Y2
  clear Y1 Y2 ht hm hx hy h0 h1 h2 h3 m1 m2 r1 r2 b1 b2 b3 b4 bd bz s1 s2 s3 s4 t1 t2
  go_enter Tryd.func15, Tryd.ntmps15
  go_wp2_with fail
  refine SA.out.mono ?_
  rintro e w1 ⟨rfl, oo⟩
  replace O := Lib.hid (O.out.trans oo (fun _ _ h => h))
  replace B := Lib.hid (B.out.only oo (fun h => h))
  clear oo SA
  obtain ⟨X, F, FM⟩ := fam w1
  have NE := FM.ne
  have c0 := FM.cell (B.out.cell (i := 0) rfl)
  have c1 := FM.cell (B.out.cell (i := 1) rfl)
  go_wp2_with fail
  refine FM.region (by kernel_rfl) (by kernel_rfl) ?_
  repeat (first | go_big_quiet_step ((first | (go_at_call 51; with_reducible exact FM.call_same (E1.out _)) | (go_at_call 51; with_reducible exact FM.call_same (E2.out _)))) | quiet_step (fail))
  refine wpQuiet_nil ?_
  intro x1
  clear c0 c1
  replace B := Lib.hid (B.out.only (FM.own x1) (fun h => h))
  replace O := Lib.hid (O.out.trans (FM.own x1) (fun _ _ h => h))
  generalize F x1 = w2 at B O ⊢
  clear FM NE
  obtain ⟨X, F, FM⟩ := fam w2
  have NE := FM.ne
  have c2 := FM.cell (B.out.cell (i := 2) rfl)
  have c3 := FM.cell (B.out.cell (i := 3) rfl)
  go_wp2_with fail
  refine FM.region (by kernel_rfl) (by kernel_rfl) ?_
  repeat (first | go_big_quiet_step ((first | (go_at_call 56; with_reducible exact FM.call_same (X1.out _)) | (go_at_call 56; with_reducible exact FM.call_same (X2.out _)) | (go_at_call 56; with_reducible exact FM.call_same (X3.out _)) | (go_at_call 56; with_reducible exact FM.call_same (X4.out _)))) | quiet_step (fail))
  refine wpQuiet_nil ?_
  intro x2
  clear c2 c3
  replace O := Lib.hid (O.out.trans (FM.own x2) (fun _ _ h => h))
  generalize F x2 = w3 at O ⊢
  clear FM NE B
  by_cases hg1 : g = 1
  · subst hg1
    go_wp2_with fail
    go_ret
    exact ⟨rfl, O.out⟩
  · have e1 : (g == 1) = false := by simpa using hg1
    by_cases hh1 : h = 1
    · subst hh1
      clear hg1
      go_wp2_with fail
      go_ret
      exact ⟨rfl, O.out⟩
    · have e2 : (h == 1) = false := by simpa using hh1
      by_cases hij : i = j
      · subst hij
        clear hg1 hh1
        go_wp2_with fail
        go_ret
        exact ⟨rfl, O.out⟩
      · have e3 : (i == j) = false := by simpa using hij
        have HI := HY.out hh1 hij
        have HB : Hid ((phz == ww) = (c == 0)) := Lib.hid (by rw [Bool.eq_iff_iff]; simpa using HI)
        clear hg1 hh1 hij HI HY
        go_wp2_with fail
        refine (MU.out _).mono ?_
        rintro e wc1 ⟨rfl, oo⟩
        replace O := Lib.hid (O.out.trans oo (fun _ _ h => h))
        clear oo
        go_wp2_with fail
        refine (AD.out _).mono ?_
        rintro e ws2 ⟨rfl, rfl⟩
        go_wp2_with fail
        refine (P1.out _).mono ?_
        rintro e wc3 ⟨rfl, oo⟩
        replace O := Lib.hid (O.out.trans oo (fun _ _ h => h))
        clear oo
        go_wp2_with fail
        refine (P2.out _).mono ?_
        rintro e wc4 ⟨rfl, oo⟩
        replace O := Lib.hid (O.out.trans oo (fun _ _ h => h))
        clear oo
        go_wp2_with fail
        refine (P3.out _).mono ?_
        rintro e wc5 ⟨rfl, oo⟩
        replace O := Lib.hid (O.out.trans oo (fun _ _ h => h))
        clear oo
        go_wp2_with fail
        refine (P4.out _).mono ?_
        rintro e wc6 ⟨rfl, oo⟩
        replace O := Lib.hid (O.out.trans oo (fun _ _ h => h))
        clear oo
        go_wp2_with fail
        refine (M1.out _).mono ?_
        rintro e wc7 ⟨rfl, oo⟩
        replace O := Lib.hid (O.out.trans oo (fun _ _ h => h))
        clear oo
        go_wp2_with fail
        refine (P5.out _).mono ?_
        rintro e wc8 ⟨rfl, oo⟩
        replace O := Lib.hid (O.out.trans oo (fun _ _ h => h))
        clear oo
        go_wp2_with fail
        refine (P6.out _).mono ?_
        rintro e wc9 ⟨rfl, oo⟩
        replace O := Lib.hid (O.out.trans oo (fun _ _ h => h))
        clear oo
        go_wp2_with fail
        refine (P7.out _).mono ?_
        rintro e wc10 ⟨rfl, oo⟩
        replace O := Lib.hid (O.out.trans oo (fun _ _ h => h))
        clear oo
        go_wp2_with fail
        refine (P8.out _).mono ?_
        rintro e wc11 ⟨rfl, oo⟩
        replace O := Lib.hid (O.out.trans oo (fun _ _ h => h))
        clear oo
        go_wp2_with fail
        have hb := HB.out
        refine (M2.out _).mono ?_
        rintro e wc12 ⟨rfl, oo⟩
        replace O := Lib.hid (O.out.trans oo (fun _ _ h => h))
        clear oo
        go_wp2_with fail
        go_ret
        exact ⟨rfl, O.out⟩
end Go.Proofs.YtjmdfipofgmakaaDoor

namespace Go.Proofs.YtjmdfipofgmakaaDoor
open Go.ChangeShapes Go.WideShapes Go.ChangeAt Go.RowKit
set_option linter.unusedVariables false
set_option linter.unusedSimpArgs false

theorem equalOnly_walk (W : World) (vals : Ty.Vals [.int .i64, .int .i64, .arr 4 (.int .i64)]) (args : List Value) (h : ArgsHold W [.int .i64, .int .i64, .arr 4 (.int .i64)] vals args) (hs : SmallAll [.int .i64, .int .i64, .arr 4 (.int .i64)] vals) (hL : laidMetH Tryd.prog Rows.equalOnlyRow.laid W) (hO : W.ShapedOpen Tryd.prog) :
    Calls Tryd.prog 15 args.toArray W fun e W' => e = .returned (.bool true) ∧ Below W.heap.size W W' := by
  obtain ⟨x, y, q, _⟩ := vals
  obtain ⟨c0, v0, r0, rfl, h0, i0, c1, v1, r1, rfl, h1, i1, c2, v2, r2, rfl, h2, i2, rfl⟩ := h
  obtain ⟨rfl, k0⟩ := int_arg h0 i0
  obtain ⟨rfl, k1⟩ := int_arg h1 i1
  obtain ⟨rfl, hq, kq⟩ := arr_ints h2 i2
  have hq' : List.length (α := Int) q = 4 := hq
  match q, hq', kq with
  | [a, b, c, d], _, kq =>
    refine (equalOnly_any x y a b c d W (tab_of hL) (maxL_of hO) k0 k1 (kq a (.head _)) (kq b (.tail _ (.head _))) (kq c (.tail _ (.tail _ (.head _)))) (kq d (.tail _ (.tail _ (.tail _ (.head _)))))).mono ?_
    rintro e w' ⟨h1, o⟩
    exact ⟨h1, o.below (fun _ h => h.elim) (Nat.le_refl _)⟩
theorem equalOnly_reads (os : Os) {H : Type} (enc : TypeId × Value → H) : ∃ places, DataW.whole enc Tryd.prog ((laidWorld os).forCall (fun _ _ => 0) ⟨#[], #[.int .i64 0, .int .i64 0, .agg #[.int .i64 0, .int .i64 0, .int .i64 0, .int .i64 0]], []⟩).memory Tryd.f15.params.toList Rows.equalOnlySpec.vars false (#[.int .i64 0, .int .i64 0, .agg #[.int .i64 0, .int .i64 0, .int .i64 0, .int .i64 0]] : Array Value).toList 8 = some ([.lit (.int .i64 0), .lit (.int .i64 0), .agg [.lit (.int .i64 0), .lit (.int .i64 0), .lit (.int .i64 0), .lit (.int .i64 0)]], [], places) :=
  ⟨[], by kernel_rfl⟩
set_option maxRecDepth 100000 in
theorem equalOnly_lifted (os : Os) (started : os.Started) (H : Type) (enc : TypeId × Value → H) (F : Stop.Interp) :
    ReturnsInHanded {} Tryd.checked os 15 .any ((OpenSpec.ofChange Rows.equalOnlySpec).preRow enc Tryd.prog Tryd.f15 Rows.equalOnlyRow.domain false Rows.equalOnlyRow.laid) (((OpenSpec.ofChange Rows.equalOnlySpec).at F).post enc Tryd.prog Tryd.f15 false true false false) := by
  obtain ⟨places, hx⟩ := equalOnly_reads os enc
  refine row_lifted 15 Tryd.f15 Rows.equalOnlySpec Rows.equalOnlyRow.domain Rows.equalOnlyRow.laid [.int .i64, .int .i64, .arr 4 (.int .i64)] 4 os started H enc F Tryd.func15 (by kernel_rfl) rfl rfl (by kernel_rfl) Tryd.underlying4 (by kernel_rfl) (by kernel_rfl) ?_
    (witness_row_at (enc := enc) (C := Tryd.checked) false (laidWorld os) #[.int .i64 0, .int .i64 0, .agg #[.int .i64 0, .int .i64 0, .int .i64 0, .int .i64 0]] rfl (by kernel_rfl) (by kernel_rfl) (by kernel_rfl)
      (OpenSpec.preRow_of_cond 8 hx (by kernel_rfl) (fun k hk => by cases hk) (by kernel_rfl) (laid_met5 os _))) equalOnly_walk
  intro ds hd
  match ds, hd with
  | [d1, d2, d3], _ => rfl
theorem equalOnly_said : Rows.EqualOnlySaid :=
  OpenClaim.holds_of_cond 15 Tryd.f15 rfl rfl rfl rfl rfl rfl rfl ⟨rfl, rfl, rfl, rfl, rfl⟩ rfl rfl rfl rfl rfl (by kernel_rfl) Tryd.func15 (by kernel_rfl)
    (of_decide_eq_true (by kernel_rfl)) (by unfold Func.isWrapper; first | (rw [if_pos (by decide +kernel)]; kernel_rfl) | (rw [if_neg (by decide +kernel)]; exact ⟨rfl, rfl⟩))
    (fun os started H enc _ F => by rw [OpenClaim.pre_eq_preRow]; exact equalOnly_lifted os started H enc F)
theorem equalOnly_plain (f : FuncId) (fn : Func) (hf : Tryd.pinned.checked.prog.funcNamed "sortes/sorteslaw06.EqualOnly" = some f) (hfn : Tryd.pinned.checked.prog.funcs[f]? = some fn) :
    true = Tryd.pinned.checked.prog.looks [] ∧ ∀ (j : Nat) t, fn.params[j]? = some t → Tryd.pinned.checked.prog.wantsStandIn t = false := by
  obtain rfl : f = 15 := Option.some.inj ((show Tryd.prog.funcNamed "sortes/sorteslaw06.EqualOnly" = some 15 by kernel_rfl).symm.trans hf) |>.symm
  obtain rfl : fn = Tryd.f15 := (Option.some.inj (Tryd.func15.symm.trans hfn)).symm
  refine ⟨by kernel_rfl, fun j t ht => ?_⟩
  have hall : Tryd.f15.params.toList.all (fun t => Tryd.prog.wantsStandIn t == false) = true := by kernel_rfl
  have := List.all_eq_true.1 hall t (by simpa using Array.mem_of_getElem? ht)
  exact eq_of_beq this
theorem equalOnly_holds : Rows.EqualOnlyCardSaid :=
  Claim7.holds_tied_plain_at .later [] _ _ _ _ equalOnly_said (fun _ h => by cases h) (by kernel_rfl) (fun _ h => by cases h) equalOnly_row_tie rfl ⟨rfl, rfl⟩ (by kernel_rfl) rfl equalOnly_plain (by kernel_rfl)
end Go.Proofs.YtjmdfipofgmakaaDoor
