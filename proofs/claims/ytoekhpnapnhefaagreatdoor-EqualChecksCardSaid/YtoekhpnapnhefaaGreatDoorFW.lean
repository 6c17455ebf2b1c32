/-
  sortesref06: Verify: contract.
  EqualChecks: walk.
  Proved: sorteslaw06.EqualChecks returns true for all numbers, never panics, and leaves its arguments as they were. Conditions: those of the given row (what the row's variables hold is what their initialisers lay; strings take at most the bytes that the row allows).
-/
import Derived.Test.YtoekhpnapnhefaaGreatDoorMJ
import Derived.Test.YtoekhpnapnhefaaGreatDoorMF
import Derived.Test.YtoekhpnapnhefaaGreatDoorME
namespace Go.Proofs.YtoekhpnapnhefaaGreatDoor
open Go.RowKit Go.Shelf
set_option linter.unusedVariables false
set_option linter.unusedSimpArgs false

set_option maxRecDepth 100000 in
set_option maxHeartbeats 2000000 in
theorem rverify6_any (g a h b c z : Int) (w : World) (hg : I64 g) (ha : I64 a) (hh : I64 h) (hb : I64 b) (hc : I64 c) (hz : I64 z) :
    Calls Tryz.prog 22 #[.int .i64 g, .int .i64 a, .int .i64 h, .int .i64 b, .agg #[.int .i64 c, .int .i64 z]] w fun e w' => e = .returned (.bool (verE g a h b c z)) ∧ Only (fun _ => False) w w' := by
  have V := Lib.hid (show verE g a h b c z = ([g, a, h, b].all memB && ((decide (0 ≤ c) && decide (c < 1152921504606845789)) && ((decide (0 ≤ z) && decide (z < 1152921504606845789)) && (c == scalE wEqual [g, a, h, b, sideE g a c z, sideE h b c z])))) from rfl)
  have A := Lib.hid (At.new w 26 [.int .i64 c, .int .i64 z])
  have O := Lib.hid ((Only.refl (fun _ => False) w).alloc (.cells [.int .i64 c, .int .i64 z].toArray 26))
  have HL := Lib.hid (i64_cons hg (i64_cons ha (i64_cons hh (i64_cons hb i64_nil))))
  obtain ⟨w1, hw1⟩ : ∃ w1, w1 = w.alloc (.cells #[.int .i64 c, .int .i64 z] 26) := ⟨_, rfl⟩
  have A1 : Hid (At w1 w.heap.size 26 [.int .i64 c, .int .i64 z]) := Lib.hid (by rw [hw1]; exact A.out)
  have O1 : Hid (Only (fun _ => False) w w1) := Lib.hid (by rw [hw1]; exact O.out)
  have hz1 : w1.heap.size = w.heap.size + 1 := by rw [hw1]; simp
  have NI := Lib.hid (At.new w1 3 (ints [g, a, h, b]))
  rw [hz1] at NI
  have A2 := Lib.hid (A1.out.alloc (.cells (ints [g, a, h, b]).toArray 3))
  have O2 := Lib.hid (O1.out.alloc (.cells (ints [g, a, h, b]).toArray 3))
  rw [hw1] at NI A2 O2
  clear A O A1 O1 hz1 hw1
  obtain ⟨l, hl⟩ : ∃ l, l = [g, a, h, b] := ⟨_, rfl⟩
  have HLL := Lib.hid hl
  go_enter Tryz.func22, Tryz.ntmps22
  go_wp2_with fail
  obtain ⟨w2, hw2⟩ : ∃ w2, w2 = (w.alloc (.cells #[.int .i64 c, .int .i64 z] 26)).alloc (.cells #[.int .i64 g, .int .i64 a, .int .i64 h, .int .i64 b] 3) := ⟨_, rfl⟩
  rw [← hw2]
  have NI2 : Hid (At w2 (w.heap.size + 1) 3 (ints l)) := Lib.hid (by rw [hw2, hl]; exact NI.out)
  have A3 : Hid (At w2 w.heap.size 26 [.int .i64 c, .int .i64 z]) := Lib.hid (by rw [hw2]; exact A2.out)
  have O3 : Hid (Only (fun _ => False) w w2) := Lib.hid (by rw [hw2]; exact O2.out)
  rw [← hl] at HL
  have VL : Hid (verE g a h b c z = (l.all memB && ((decide (0 ≤ c) && decide (c < 1152921504606845789)) && ((decide (0 ≤ z) && decide (z < 1152921504606845789)) && (c == scalE wEqual [g, a, h, b, sideE g a c z, sideE h b c z]))))) := Lib.hid (by rw [hl]; exact V.out)
  have HLE := Lib.hid (show l.length = 4 by rw [hl]; rfl)
  clear NI A2 O2 hw2 V hl
  go_loop [10, 12, 13] (fun _ kv _ => ∃ (k : Nat), k ≤ 4 ∧ kv = .int .i64 k ∧ Hid ((l.take k).all memB = true)) (fun _ kv _ => (4 - intOf kv).toNat)
  case atStart => exact ⟨0, by omega, rfl, Lib.hid (by simp)⟩
  case round =>
    obtain ⟨k, hk, rfl, HM⟩ := hrel
    by_cases hlt : k < 4
    · have hkl : k < l.length := by rw [HLE.out]; exact hlt
      have hv := get_getD hkl
      have c0 := NI2.out.cell (i := k) (v := .int .i64 (l.getD k 0)) (by rw [ints, List.getElem?_map, hv]; rfl)
      have MB := Lib.hid (fun W => rmember_any (l.getD k 0) W (HL.out _ (getD_mem hkl)))
      have TS := Lib.hid (take_snocI l k hkl)
      have hmem := getD_mem hkl
      have i1 : (k : Int) < 4 := by omega
      clear hv
      cases hb : memB (l.getD k 0) with
      | true =>
        rw [hb] at MB
        have NX : Hid ((l.take (k + 1)).all memB = true) := Lib.hid (by rw [TS.out, List.all_append, HM.out, List.all_cons, List.all_nil, hb]; rfl)
        generalize l.getD k 0 = x at *
        clear hb hmem hkl
        go_wp2_with fail
        refine (MB.out _).mono ?_
        rintro e ws1 ⟨rfl, rfl⟩
        go_wp2_with fail
        go_round
        case rel => exact ⟨k + 1, by omega, by go_num, NX⟩
        case measure => simp [intOf]; omega
      | false =>
        rw [hb] at MB
        have NX : Hid (l.all memB = false) := Lib.hid (by
          rw [List.all_eq_false]; exact ⟨_, hmem, by rw [hb]; simp⟩)
        generalize l.getD k 0 = x at *
        clear hb hmem hkl
        go_wp2_with fail
        refine (MB.out _).mono ?_
        rintro e ws2 ⟨rfl, rfl⟩
        go_wp2_with fail
        go_ret
        exact ⟨by rw [VL.out, NX.out]; rfl, O3.out⟩
    · obtain rfl : k = 4 := by omega
      have hall := HM.out
      rw [List.take_of_length_le (by rw [HLE.out]; exact Nat.le_refl _)] at hall
      have VA := VL.out
      rw [hall, Bool.true_and] at VA
      have c0 := A3.out.cell (i := 0) rfl
      have c1 := A3.out.cell (i := 1) rfl
      clear hall
      by_cases h1 : 0 ≤ c
      · by_cases h2 : c < 1152921504606845789
        · by_cases h3 : 0 ≤ z
          · by_cases h4 : z < 1152921504606845789
            · rw [decide_eq_true h1, decide_eq_true h2, decide_eq_true h3, decide_eq_true h4, Bool.true_and, Bool.true_and, Bool.true_and] at VA
              have HV := Lib.hid VA
              have S1 := Lib.hid (fun W => rside6_any g a c z W hg ha ⟨h1, h2⟩ ⟨h3, h4⟩)
              have S2 := Lib.hid (fun W => rside6_any h b c z W hh hb ⟨h1, h2⟩ ⟨h3, h4⟩)
              have r1 : 0 ≤ sideE g a c z ∧ sideE g a c z < 2305843009213691579 := by unfold sideE; omega
              have r2 : 0 ≤ sideE h b c z ∧ sideE h b c z < 2305843009213691579 := by unfold sideE; omega
              generalize sideE g a c z = s at *
              generalize sideE h b c z = t at *
              have SE := Lib.hid (fun W p (o : Only (fun _ => False) w W) (hp : IntsAt W p [g, a, h, b, s, t]) => rchal6_any g [a, h, b, s, t] p 6 6 W rfl (by omega) hp (i64_cons hg (i64_cons ha (i64_cons hh (i64_cons hb (i64_cons (i64_p r1) (i64_cons (i64_p r2) i64_nil)))))))
              generalize scalE wEqual [g, a, h, b, s, t] = v at *
              clear VA VL hg ha hh hb hc hz r1 r2
              go_wp2_with fail
              clear c0 c1
              go_region_held3 (fun W => W.cell? ⟨w.heap.size, 0, none⟩ = some (.int .i64 c) ∧ W.cell? ⟨w.heap.size, 1, none⟩ = some (.int .i64 z) ∧ Hid (At W w.heap.size 26 [.int .i64 c, .int .i64 z] ∧ Only (fun _ => False) w W)) ((first | exact keepP (by assumption) (by assumption) | exact keepP (by assumption) ((Only.refl _ _).alloc _) | exact mkP (A3.out.drewN 1) (O3.out.drewN 1))) (first | (go_at_call_of 61 (Value.int IntKind.i64 a); refine (S1.out _).mono ?_; rintro e' w4 ⟨rfl, o4⟩) | (go_at_call_of 61 (Value.int IntKind.i64 b); refine (S2.out _).mono ?_; rintro e' w5 ⟨rfl, o5⟩) | (go_at_call 34; refine (SE.out _ _ (getPO (g := w.heap.size) (c := c) (z := z) (by assumption)) (ints_at' (At.new _ _ _))).mono ?_; rintro e' w6 ⟨rfl, o6⟩))
              all_goals go_wp2_with fail
              all_goals go_ret
              all_goals exact ⟨by rw [HV.out]; rfl, getPO (g := w.heap.size) (c := c) (z := z) (by assumption)⟩
            · rw [decide_eq_true h1, decide_eq_true h2, decide_eq_true h3, decide_eq_false h4, Bool.and_false, Bool.false_and, Bool.and_false] at VA
              have HV := Lib.hid VA
              clear VA VL hg ha hh hb hc hz
              go_wp2_with fail
              go_ret
              exact ⟨by rw [HV.out]; rfl, O3.out⟩
          · rw [decide_eq_true h1, decide_eq_true h2, decide_eq_false h3, Bool.false_and, Bool.false_and, Bool.and_false] at VA
            have HV := Lib.hid VA
            clear VA VL hg ha hh hb hc hz
            go_wp2_with fail
            go_ret
            exact ⟨by rw [HV.out]; rfl, O3.out⟩
        · rw [decide_eq_true h1, decide_eq_false h2, Bool.and_false, Bool.false_and] at VA
          have HV := Lib.hid VA
          clear VA VL hg ha hh hb hc hz
          go_wp2_with fail
          go_ret
          exact ⟨by rw [HV.out]; rfl, O3.out⟩
      · rw [decide_eq_false h1, Bool.false_and, Bool.false_and] at VA
        have HV := Lib.hid VA
        clear VA VL hg ha hh hb hc hz
        go_wp2_with fail
        go_ret
        exact ⟨by rw [HV.out]; rfl, O3.out⟩
end Go.Proofs.YtoekhpnapnhefaaGreatDoor

namespace Go.Proofs.YtoekhpnapnhefaaGreatDoor
open Go.RowKit Go.Shelf
set_option linter.unusedVariables false
set_option linter.unusedSimpArgs false

theorem six_of {l : List Int} (h : l.length = 6) : ∃ a b c d e f, l = [a, b, c, d, e, f] := by
  match l, h with
  | [a, b, c, d, e, f], _ => exact ⟨a, b, c, d, e, f, rfl⟩
theorem ints_setI (l : List Int) (k : Nat) (x : Int) : ints (l.set k x) = (ints l).set k (.int .i64 x) := by simp [ints, List.map_set]
theorem i64_set {l : List Int} (h : ∀ x ∈ l, I64 x) (k : Nat) {y : Int} (hy : I64 y) : ∀ x ∈ l.set k y, I64 x := fun x hx => by
  rcases List.mem_or_eq_of_mem_set hx with h1 | h1
  · exact h x h1
  · rw [h1]; exact hy
theorem mod6 (q : Int) : ∃ n : Nat, ((q.tmod 6 + 6) % 6 = (n : Int) ∧ (q.tmod 6 + 6).tmod 6 = (n : Int)) ∧ n < 6 ∧ -6 < q.tmod 6 ∧ q.tmod 6 < 6 := by
  have m1 : q.tmod 6 < 6 := Int.tmod_lt_of_pos q (by omega)
  have m2 : -6 < q.tmod 6 := by
    have := Int.tmod_lt_of_pos (-q) (show (0 : Int) < 6 by omega)
    rw [Int.neg_tmod] at this
    omega
  obtain ⟨n, hn⟩ := Int.eq_ofNat_of_zero_le (show 0 ≤ (q.tmod 6 + 6) % 6 by omega)
  exact ⟨n, ⟨hn, by rw [Int.tmod_eq_emod_of_nonneg (by omega)]; exact hn⟩, by omega, m2, m1⟩
/-- a region whose orders all end in one frame and one world -/
theorem region_join {P : Program} {c : Code} {a : Act} {w : World} {Q : Exit → Act → World → Prop} (A : Act) (W : World) (h : c.wp P (fun e a' w' => e = Exit.normal ∧ a' = A ∧ w' = W) a w) (hq : Q .normal A W) : c.wp P Q a w :=
  Code.wp_mono (fun e a' w' h => by obtain ⟨rfl, rfl, rfl⟩ := h; exact hq) h
set_option maxRecDepth 100000 in
set_option maxHeartbeats 4000000 in
theorem equalChecks_any (s0 s1 s2 pc pz q0 q1 : Int) (w : World) (ht : Tab w) (hm : MaxL w) (h0 : I64 s0) (h1 : I64 s1) (h2 : I64 s2) (hpc : I64 pc) (hpz : I64 pz) (hq0 : I64 q0) (hq1 : I64 q1) :
    Calls Tryz.prog 7 #[.agg #[.int .i64 s0, .int .i64 s1, .int .i64 s2], .agg #[.int .i64 pc, .int .i64 pz], .agg #[.int .i64 q0, .int .i64 q1]] w fun e w' => e = .returned (.bool true) ∧ Only (fun _ => False) w w' := by
  obtain ⟨wa, hwa⟩ : ∃ wa, wa = w.alloc (.cells [.int .i64 s0, .int .i64 s1, .int .i64 s2].toArray 56) := ⟨_, rfl⟩
  have oa := (Only.refl (fun _ => False) w).alloc (.cells [.int .i64 s0, .int .i64 s1, .int .i64 s2].toArray 56)
  have PA := At.new w 56 [.int .i64 s0, .int .i64 s1, .int .i64 s2]
  rw [← hwa] at oa PA
  have za : wa.heap.size = w.heap.size + 1 := by rw [hwa]; simp
  obtain ⟨wb, hwb⟩ : ∃ wb, wb = wa.alloc (.cells [.int .i64 pc, .int .i64 pz].toArray 26) := ⟨_, rfl⟩
  have ob := oa.alloc (.cells [.int .i64 pc, .int .i64 pz].toArray 26)
  have PB := At.new wa 26 [.int .i64 pc, .int .i64 pz]
  replace PA := PA.alloc (.cells [.int .i64 pc, .int .i64 pz].toArray 26)
  rw [← hwb] at ob PA PB
  have zb : wb.heap.size = w.heap.size + 2 := by rw [hwb]; simp [za]
  rw [za] at PB
  have oc := ob.alloc (.cells [.int .i64 q0, .int .i64 q1].toArray 29)
  have PC := At.new wb 29 [.int .i64 q0, .int .i64 q1]
  replace PA := PA.alloc (.cells [.int .i64 q0, .int .i64 q1].toArray 29)
  replace PB := PB.alloc (.cells [.int .i64 q0, .int .i64 q1].toArray 29)
  rw [zb] at PC
  have SA := Lib.hid (sanity6 _ (ht.only oc) (hm.only oc))
  rw [hwb, hwa] at PA PB PC oc SA
  have S := Lib.hid PA
  have P := Lib.hid PB
  have Q := Lib.hid PC
  have O := Lib.hid oc
  clear PA PB PC oa ob oc za zb hwa hwb
  have E1 := Lib.hid (fun W => relem6_any s1 W h1)
  have E2 := Lib.hid (fun W => relem6_any s2 W h2)
  have E3 := Lib.hid (fun W => relem6_any q1 W hq1)
  have r3 := memB_range (elemE_mem q1)
  have m1 := elemE_mem s1
  have m2 := elemE_mem s2
  generalize elemE s1 = g at *
  generalize elemE s2 = h at *
  generalize elemE q1 = y3 at *
  have r1 := memB_range m1
  have r2 := memB_range m2
  have ig : I64 g := by unfold I64; omega
  have ih : I64 h := by unfold I64; omega
  have iy : I64 y3 := by unfold I64; omega
  have X1 := Lib.hid (fun W => rexpo6_any s0 W h0)
  have b1 : 0 ≤ s0 % 1152921504606845789 ∧ s0 % 1152921504606845789 < 1152921504606845789 := by omega
  have PR := Lib.hid (fun W => rprove6_any s0 g h W h0 ig ih (by rw [m1, m2]; rfl))
  generalize s0 % 1152921504606845789 = i at *
  generalize provK i g h = k at *
  have rc := (@prov_range i g h k).1
  have rz := (@prov_range i g h k).2
  generalize provC i g h k = mc at *
  generalize provZ i g h k = mz at *
  have P1 := Lib.hid (fun W => pow_any g i 2305843009213691579 W (by omega) (by omega) ig b1.1 (by omega))
  have P2 := Lib.hid (fun W => pow_any h i 2305843009213691579 W (by omega) (by omega) ih b1.1 (by omega))
  rw [show pm g i.toNat 2305843009213691579 = pP g i from rfl] at P1
  rw [show pm h i.toNat 2305843009213691579 = pP h i from rfl] at P2
  have t1 := pP_range g i
  have t2 := pP_range h i
  generalize pP g i = a at *
  generalize pP h i = b at *
  have ia := i64_p t1
  have ib := i64_p t2
  have imc := i64_of rc (by omega)
  have imz := i64_of rz (by omega)
  have HI := Lib.hid (⟨h0, h1, h2, hpc, hpz, hq0, hq1, ig, ih, ia, ib, imc, imz, iy⟩ : I64 s0 ∧ I64 s1 ∧ I64 s2 ∧ I64 pc ∧ I64 pz ∧ I64 q0 ∧ I64 q1 ∧ I64 g ∧ I64 h ∧ I64 a ∧ I64 b ∧ I64 mc ∧ I64 mz ∧ I64 y3)
  have HT := Lib.hid ht
  clear ht hm h0 h1 h2 hpc hpz hq0 m1 m2 r1 r2 r3 b1 rc rz t1 t2 ig ih ia ib imc imz iy
  go_enter Tryz.func7, Tryz.ntmps7
  go_wp2_with fail
  refine SA.out.mono ?_
  rintro e w1 ⟨rfl, oo⟩
  replace O := Lib.hid (O.out.trans oo (fun _ _ h => h))
  replace S := Lib.hid (S.out.only oo (fun h => h))
  replace P := Lib.hid (P.out.only oo (fun h => h))
  replace Q := Lib.hid (Q.out.only oo (fun h => h))
  clear oo SA
  obtain ⟨X, F, FM⟩ := fam w1
  have NE := FM.ne
  have c1 := FM.cell (S.out.cell (i := 1) rfl)
  have c2 := FM.cell (S.out.cell (i := 2) rfl)
  go_wp2_with fail
  refine FM.region (by kernel_rfl) (by kernel_rfl) ?_
  repeat (first | go_big_quiet_step ((first | (go_at_call 26; with_reducible exact FM.call_same (E1.out _)) | (go_at_call 26; with_reducible exact FM.call_same (E2.out _)))) | quiet_step (fail))
  refine wpQuiet_nil ?_
  intro x1
  clear c1 c2
  replace O := Lib.hid (O.out.trans (FM.own x1) (fun _ _ h => h))
  replace S := Lib.hid (S.out.only (FM.own x1) (fun h => h))
  replace P := Lib.hid (P.out.only (FM.own x1) (fun h => h))
  replace Q := Lib.hid (Q.out.only (FM.own x1) (fun h => h))
  generalize F x1 = w2 at O S P Q ⊢
  clear FM NE
  have c0 := S.out.cell (i := 0) rfl
  go_wp2_with fail
  clear c0
  refine (X1.out _).mono ?_
  rintro e ws1 ⟨rfl, rfl⟩
  go_wp2_with fail
  refine (P1.out _).mono ?_
  rintro e w3 ⟨rfl, oo⟩
  replace O := Lib.hid (O.out.trans oo (fun _ _ h => h))
  replace S := Lib.hid (S.out.only oo (fun h => h))
  replace P := Lib.hid (P.out.only oo (fun h => h))
  replace Q := Lib.hid (Q.out.only oo (fun h => h))
  clear oo
  go_wp2_with fail
  refine (P2.out _).mono ?_
  rintro e w4 ⟨rfl, oo⟩
  replace O := Lib.hid (O.out.trans oo (fun _ _ h => h))
  replace S := Lib.hid (S.out.only oo (fun h => h))
  replace P := Lib.hid (P.out.only oo (fun h => h))
  replace Q := Lib.hid (Q.out.only oo (fun h => h))
  clear oo
  have HZ4 := Lib.hid (show w.heap.size + 2 < w4.heap.size from Q.out.lt)
  have L := Lib.hid (At.new w4 57 [.int .i64 g, .int .i64 a, .int .i64 h, .int .i64 b, .int .i64 0, .int .i64 0])
  replace O := Lib.hid (O.out.alloc (.cells [.int .i64 g, .int .i64 a, .int .i64 h, .int .i64 b, .int .i64 0, .int .i64 0].toArray 57))
  replace S := Lib.hid (S.out.alloc (.cells [.int .i64 g, .int .i64 a, .int .i64 h, .int .i64 b, .int .i64 0, .int .i64 0].toArray 57))
  replace P := Lib.hid (P.out.alloc (.cells [.int .i64 g, .int .i64 a, .int .i64 h, .int .i64 b, .int .i64 0, .int .i64 0].toArray 57))
  replace Q := Lib.hid (Q.out.alloc (.cells [.int .i64 g, .int .i64 a, .int .i64 h, .int .i64 b, .int .i64 0, .int .i64 0].toArray 57))
  have c0 := S.out.cell (i := 0) rfl
  go_wp2_with fail
  clear c0
  refine (PR.out _).mono ?_
  rintro e w5 ⟨rfl, oo⟩
  have M := Lib.hid (At.new w5 26 [.int .i64 mc, .int .i64 mz])
  replace O := Lib.hid ((O.out.trans oo (fun _ _ h => h)).alloc (.cells [.int .i64 mc, .int .i64 mz].toArray 26))
  replace S := Lib.hid ((S.out.only oo (fun h => h)).alloc (.cells [.int .i64 mc, .int .i64 mz].toArray 26))
  replace P := Lib.hid ((P.out.only oo (fun h => h)).alloc (.cells [.int .i64 mc, .int .i64 mz].toArray 26))
  replace Q := Lib.hid ((Q.out.only oo (fun h => h)).alloc (.cells [.int .i64 mc, .int .i64 mz].toArray 26))
  replace L := Lib.hid ((L.out.only oo (fun h => h)).alloc (.cells [.int .i64 mc, .int .i64 mz].toArray 26))
  clear oo
  have hlm : w4.heap.size ≠ w5.heap.size := fun h => (L.out.ne M.out (by decide)) h
  go_wp2_with fail
  obtain ⟨w6, hw6⟩ : ∃ w6, w6 = w5.alloc (.cells #[.int .i64 mc, .int .i64 mz] 26) := ⟨_, rfl⟩
  rw [← hw6]
  replace O : Hid (Only (fun _ => False) w w6) := Lib.hid (by rw [hw6]; exact O.out)
  replace S : Hid (At w6 w.heap.size 56 [.int .i64 s0, .int .i64 s1, .int .i64 s2]) := Lib.hid (by rw [hw6]; exact S.out)
  replace P : Hid (At w6 (w.heap.size + 1) 26 [.int .i64 pc, .int .i64 pz]) := Lib.hid (by rw [hw6]; exact P.out)
  replace Q : Hid (At w6 (w.heap.size + 2) 29 [.int .i64 q0, .int .i64 q1]) := Lib.hid (by rw [hw6]; exact Q.out)
  replace L : Hid (At w6 w4.heap.size 57 [.int .i64 g, .int .i64 a, .int .i64 h, .int .i64 b, .int .i64 0, .int .i64 0]) := Lib.hid (by rw [hw6]; exact L.out)
  replace M : Hid (At w6 w5.heap.size 26 [.int .i64 mc, .int .i64 mz]) := Lib.hid (by rw [hw6]; exact M.out)
  have HN := Lib.hid (show w.heap.size + 2 < w4.heap.size from HZ4.out)
  generalize w4.heap.size = gl at *
  generalize w5.heap.size = gm at *
  clear hw6
  have d0 := M.out.cell (i := 0) rfl
  have d1 := M.out.cell (i := 1) rfl
  have l4 := L.out.cell (i := 4) rfl
  have l5 := L.out.cell (i := 5) rfl
  have f4 := L.out.frozen 4
  have f5 := L.out.frozen 5
  have mixed : Tryz.prog.follows .mixedOrders = true := by kernel_rfl
  apply region_join
  case h =>
    go_region_o
    all_goals exact ⟨rfl, rfl, rfl⟩
  case hq =>
  obtain ⟨w7, hw7⟩ : ∃ w7, w7 = ((w6.setCell ⟨gl, 4, none⟩ (.int .i64 mc)).setCell ⟨gl, 5, none⟩ (.int .i64 mz)).drew := ⟨_, rfl⟩
  rw [← hw7]
  replace O : Hid (Only (fun _ => False) w w7) := Lib.hid (by
    rw [hw7]
    exact ((O.out.put (p := ⟨gl, 4, none⟩) (fun h => absurd (show gl < w.heap.size from h) (by have := HN.out; omega)) _).put (p := ⟨gl, 5, none⟩) (fun h => absurd (show gl < w.heap.size from h) (by have := HN.out; omega)) _).drew)
  have OL := Lib.hid (((Only.refl (· = gl) w6).put (p := ⟨gl, 4, none⟩) (fun _ => rfl) (.int .i64 mc)).put (p := ⟨gl, 5, none⟩) (fun _ => rfl) (.int .i64 mz)).drew
  rw [← hw7] at OL
  replace S := Lib.hid (S.out.only OL.out (by have := HN.out; omega))
  replace P := Lib.hid (P.out.only OL.out (by have := HN.out; omega))
  replace Q := Lib.hid (Q.out.only OL.out (by have := HN.out; omega))
  replace L : Hid (At w7 gl 57 [.int .i64 g, .int .i64 a, .int .i64 h, .int .i64 b, .int .i64 mc, .int .i64 mz]) := Lib.hid (by rw [hw7]; exact ((L.out.put 4 (.int .i64 mc)).put 5 (.int .i64 mz)).drew)
  clear hw7 d0 d1 l4 l5 f4 f5 M OL hlm
  obtain ⟨n, ⟨e1, e2⟩, hn, n1, n2⟩ := mod6 q0
  obtain ⟨m, hm⟩ : ∃ m, q0.tmod 6 = m := ⟨_, rfl⟩
  rw [hm] at e1 e2 n1 n2
  have l0 := L.out.cell (i := 0) rfl
  have l1 := L.out.cell (i := 1) rfl
  have l2 := L.out.cell (i := 2) rfl
  have l3 := L.out.cell (i := 3) rfl
  have l4 := L.out.cell (i := 4) rfl
  have l5 := L.out.cell (i := 5) rfl
  have qc := (Q.out.alloc (.cells [.int .i64 g, .int .i64 a, .int .i64 h, .int .i64 b, .int .i64 mc, .int .i64 mz].toArray 57)).cell (i := 0) rfl
  go_wp2_with fail
  obtain ⟨lm, hlm⟩ : ∃ lm, lm = [g, a, h, b, mc, mz] := ⟨_, rfl⟩
  have HLM := Lib.hid (show lm.length = 6 by rw [hlm]; rfl)
  have HIM := Lib.hid (show ∀ x ∈ lm, I64 x from by
    rw [hlm]
    obtain ⟨_, _, _, _, _, _, _, z1, z2, z3, z4, z5, z6, _⟩ := HI.out
    exact i64_cons z1 (i64_cons z3 (i64_cons z2 (i64_cons z4 (i64_cons z5 (i64_cons z6 i64_nil))))))
  obtain ⟨w8, hw8⟩ : ∃ w8, w8 = w7.alloc (.cells #[.int .i64 g, .int .i64 a, .int .i64 h, .int .i64 b, .int .i64 mc, .int .i64 mz] 57) := ⟨_, rfl⟩
  rw [← hw8]
  have M : Hid (At w8 w7.heap.size 57 (ints lm)) := Lib.hid (by rw [hw8, hlm]; exact At.new w7 _ [.int .i64 g, .int .i64 a, .int .i64 h, .int .i64 b, .int .i64 mc, .int .i64 mz])
  replace O : Hid (Only (fun _ => False) w w8) := Lib.hid (by rw [hw8]; exact O.out.alloc _)
  replace S : Hid (At w8 w.heap.size 56 [.int .i64 s0, .int .i64 s1, .int .i64 s2]) := Lib.hid (by rw [hw8]; exact S.out.alloc _)
  replace P : Hid (At w8 (w.heap.size + 1) 26 [.int .i64 pc, .int .i64 pz]) := Lib.hid (by rw [hw8]; exact P.out.alloc _)
  replace Q : Hid (At w8 (w.heap.size + 2) 29 [.int .i64 q0, .int .i64 q1]) := Lib.hid (by rw [hw8]; exact Q.out.alloc _)
  have HG7 := Lib.hid (show gl < w7.heap.size from L.out.lt)
  replace L : Hid (At w8 gl 57 [.int .i64 g, .int .i64 a, .int .i64 h, .int .i64 b, .int .i64 mc, .int .i64 mz]) := Lib.hid (by rw [hw8]; exact L.out.alloc _)
  clear l0 l1 l2 l3 l4 l5 qc hw8
  generalize w7.heap.size = g2 at *
  have hx := get_getD (l := lm) (k := n) (by rw [HLM.out]; exact hn)
  have HXI := Lib.hid (HIM.out _ (getD_mem (l := lm) (k := n) (by rw [HLM.out]; exact hn)))
  have cx : w8.cell? ⟨g2, n, none⟩ = some (.int .i64 (lm.getD n 0)) := M.out.cell (by rw [ints, List.getElem?_map, hx]; rfl)
  generalize lm.getD n 0 = xn at cx HXI
  obtain ⟨yv, ey⟩ : ∃ yv, IntKind.i64.wrap (xn + q1) = yv := ⟨_, rfl⟩
  have HYI := Lib.hid (show I64 yv from by rw [← ey]; unfold I64; simp only [IntKind.wrap_i64]; omega)
  clear hx
  obtain ⟨X, F, FM⟩ := fam w8
  have NE := FM.ne
  have cn := FM.cell (cx)
  have cq := FM.cell (Q.out.cell (i := 1) rfl)
  clear cx
  refine FM.tail 7 (by kernel_rfl) (by decide +kernel) ?_
  simp only [List.take_succ_cons, List.take_zero, List.drop_succ_cons, List.drop_zero]
  repeat (first | go_big_quiet_step (fail) | quiet_step (fail))
  refine wpQuiet_nil ?_
  intro x2
  clear cn cq
  replace O := Lib.hid (O.out.trans (FM.own x2) (fun _ _ h => h))
  replace S := Lib.hid (S.out.only (FM.own x2) (fun h => h))
  replace P := Lib.hid (P.out.only (FM.own x2) (fun h => h))
  replace Q := Lib.hid (Q.out.only (FM.own x2) (fun h => h))
  replace L := Lib.hid (L.out.only (FM.own x2) (fun h => h))
  replace M := Lib.hid (M.out.only (FM.own x2) (fun h => h))
  generalize F x2 = w9 at O S P Q L M ⊢
  clear FM NE
  have cz : w9.cell? ⟨g2, n, none⟩ = some (.int .i64 (lm.getD n 0)) := M.out.cell (by rw [ints, List.getElem?_map, get_getD (by rw [HLM.out]; exact hn)]; rfl)
  have fz := M.out.frozen n
  obtain ⟨w10, hw10⟩ : ∃ w10, w10 = w9.setCell ⟨g2, n, none⟩ (.int .i64 yv) := ⟨_, rfl⟩
  have O10 : Hid (Only (fun _ => False) w w10) := Lib.hid (by rw [hw10]; exact O.out.put (p := ⟨g2, n, none⟩) (fun h => absurd (show g2 < w.heap.size from h) (by have := HG7.out; have := HN.out; omega)) _)
  have S10 : Hid (At w10 w.heap.size 56 [.int .i64 s0, .int .i64 s1, .int .i64 s2]) := Lib.hid (by rw [hw10]; exact S.out.far (p := ⟨g2, n, none⟩) (show w.heap.size ≠ g2 by have := HG7.out; have := HN.out; omega) _)
  have P10 : Hid (At w10 (w.heap.size + 1) 26 [.int .i64 pc, .int .i64 pz]) := Lib.hid (by rw [hw10]; exact P.out.far (p := ⟨g2, n, none⟩) (show w.heap.size + 1 ≠ g2 by have := HG7.out; have := HN.out; omega) _)
  have Q10 : Hid (At w10 (w.heap.size + 2) 29 [.int .i64 q0, .int .i64 q1]) := Lib.hid (by rw [hw10]; exact Q.out.far (p := ⟨g2, n, none⟩) (show w.heap.size + 2 ≠ g2 by have := HG7.out; have := HN.out; omega) _)
  have L10 : Hid (At w10 gl 57 [.int .i64 g, .int .i64 a, .int .i64 h, .int .i64 b, .int .i64 mc, .int .i64 mz]) := Lib.hid (by rw [hw10]; exact L.out.far (p := ⟨g2, n, none⟩) (show gl ≠ g2 by have := HG7.out; omega) _)
  have M10 : Hid (At w10 g2 57 (ints (lm.set n yv))) := Lib.hid (by rw [hw10, ints_setI]; exact M.out.put n _)
  have l0 := L10.out.cell (i := 0) rfl
  have l1 := L10.out.cell (i := 1) rfl
  have l2 := L10.out.cell (i := 2) rfl
  have l3 := L10.out.cell (i := 3) rfl
  have l4 := L10.out.cell (i := 4) rfl
  have l5 := L10.out.cell (i := 5) rfl
  rw [hw10] at l0 l1 l2 l3 l4 l5
  go_wp2_with fail
  have R11 : Hid (At (w10.alloc (.cells #[.int .i64 g, .int .i64 a, .int .i64 h, .int .i64 b, .int .i64 mc, .int .i64 mz] 57)) w10.heap.size 57 (ints lm)) := Lib.hid (by rw [hlm]; exact At.new w10 _ [.int .i64 g, .int .i64 a, .int .i64 h, .int .i64 b, .int .i64 mc, .int .i64 mz])
  have HG10 := Lib.hid (show g2 < w10.heap.size from M10.out.lt)
  obtain ⟨w11, hw11⟩ : ∃ w11, w11 = w10.alloc (.cells #[.int .i64 g, .int .i64 a, .int .i64 h, .int .i64 b, .int .i64 mc, .int .i64 mz] 57) := ⟨_, rfl⟩
  replace O : Hid (Only (fun _ => False) w w11) := Lib.hid (by rw [hw11]; exact O10.out.alloc _)
  replace S : Hid (At w11 w.heap.size 56 [.int .i64 s0, .int .i64 s1, .int .i64 s2]) := Lib.hid (by rw [hw11]; exact S10.out.alloc _)
  replace P : Hid (At w11 (w.heap.size + 1) 26 [.int .i64 pc, .int .i64 pz]) := Lib.hid (by rw [hw11]; exact P10.out.alloc _)
  replace Q : Hid (At w11 (w.heap.size + 2) 29 [.int .i64 q0, .int .i64 q1]) := Lib.hid (by rw [hw11]; exact Q10.out.alloc _)
  replace L : Hid (At w11 gl 57 [.int .i64 g, .int .i64 a, .int .i64 h, .int .i64 b, .int .i64 mc, .int .i64 mz]) := Lib.hid (by rw [hw11]; exact L10.out.alloc _)
  replace M : Hid (At w11 g2 57 (ints (lm.set n yv))) := Lib.hid (by rw [hw11]; exact M10.out.alloc _)
  have R : Hid (At w11 w10.heap.size 57 (ints lm)) := Lib.hid (by rw [hw11]; exact R11.out)
  have hz10 : w10.heap.size = w9.heap.size := by rw [hw10]; simp
  rw [hz10] at HG10 R
  generalize w9.heap.size = g3 at *
  rw [hw10] at hw11
  rw [← hw11]
  clear l0 l1 l2 l3 l4 l5 cz fz O10 S10 P10 Q10 L10 M10 R11 hw11 hw10 hz10
  have HXM := Lib.hid (HIM.out _ (getD_mem (l := lm) (k := n) (by rw [HLM.out]; exact hn)))
  have cx : w11.cell? ⟨g3, n, none⟩ = some (.int .i64 (lm.getD n 0)) := R.out.cell (by rw [ints, List.getElem?_map, get_getD (by rw [HLM.out]; exact hn)]; rfl)
  obtain ⟨xm, exm⟩ : ∃ xm, lm.getD n 0 = xm := ⟨_, rfl⟩
  rw [exm] at cx HXM
  clear exm
  have MU := Lib.hid (fun W => mul_only xm y3 2305843009213691579 W (by omega) (by omega) HXM.out (by obtain ⟨_, _, _, _, _, _, _, _, _, _, _, _, _, z⟩ := HI.out; exact z))
  obtain ⟨rv, erv⟩ : ∃ rv, xm * y3 % 2305843009213691579 = rv := ⟨_, rfl⟩
  rw [erv] at MU
  have HRI := Lib.hid (show I64 rv from by rw [← erv]; unfold I64; omega)
  clear erv
  obtain ⟨X, F, FM⟩ := fam w11
  have NE := FM.ne
  have cn := FM.cell (cx)
  have cq := FM.cell (Q.out.cell (i := 1) rfl)
  clear cx
  refine FM.tail 9 (by kernel_rfl) (by decide +kernel) ?_
  simp only [List.take_succ_cons, List.take_zero, List.drop_succ_cons, List.drop_zero]
  repeat (first | go_big_quiet_step ((first | (go_at_call 26; with_reducible exact FM.call_same (E3.out _)) | (go_at_call 33; with_reducible exact FM.call (MU.out _)))) | quiet_step (fail))
  refine wpQuiet_nil ?_
  intro x3
  clear cn cq
  replace O := Lib.hid (O.out.trans (FM.own x3) (fun _ _ h => h))
  replace S := Lib.hid (S.out.only (FM.own x3) (fun h => h))
  replace P := Lib.hid (P.out.only (FM.own x3) (fun h => h))
  replace Q := Lib.hid (Q.out.only (FM.own x3) (fun h => h))
  replace L := Lib.hid (L.out.only (FM.own x3) (fun h => h))
  replace M := Lib.hid (M.out.only (FM.own x3) (fun h => h))
  replace R := Lib.hid (R.out.only (FM.own x3) (fun h => h))
  generalize F x3 = w12 at O S P Q L M R ⊢
  clear FM NE MU
  obtain ⟨v0, v1, v2, v3, v4, v5, ev⟩ := six_of (l := lm.set n yv) (by rw [List.length_set]; exact HLM.out)
  obtain ⟨u0, u1, u2, u3, u4, u5, eu⟩ := six_of (l := lm.set n rv) (by rw [List.length_set]; exact HLM.out)
  have HV := Lib.hid (show ∀ x ∈ [v0, v1, v2, v3, v4, v5], I64 x from by rw [← ev]; exact i64_set HIM.out n HYI.out)
  have HU := Lib.hid (show ∀ x ∈ [u0, u1, u2, u3, u4, u5], I64 x from by rw [← eu]; exact i64_set HIM.out n HRI.out)
  rw [ev] at M
  have cz : w12.cell? ⟨g3, n, none⟩ = some (.int .i64 (lm.getD n 0)) := R.out.cell (by rw [ints, List.getElem?_map, get_getD (by rw [HLM.out]; exact hn)]; rfl)
  have fz := R.out.frozen n
  obtain ⟨w13, hw13⟩ : ∃ w13, w13 = w12.setCell ⟨g3, n, none⟩ (.int .i64 rv) := ⟨_, rfl⟩
  have ng : g2 ≠ g3 := by have := HG10.out; omega
  have n7 : gl < g3 := by have := HG10.out; have := HG7.out; omega
  have n8 := HN.out
  have O13 : Hid (Only (fun _ => False) w w13) := Lib.hid (by rw [hw13]; exact O.out.put (p := ⟨g3, n, none⟩) (fun h => absurd (show g3 < w.heap.size from h) (by omega)) _)
  have S13 : Hid (At w13 w.heap.size 56 [.int .i64 s0, .int .i64 s1, .int .i64 s2]) := Lib.hid (by rw [hw13]; exact S.out.far (p := ⟨g3, n, none⟩) (show w.heap.size ≠ g3 by omega) _)
  have P13 : Hid (At w13 (w.heap.size + 1) 26 [.int .i64 pc, .int .i64 pz]) := Lib.hid (by rw [hw13]; exact P.out.far (p := ⟨g3, n, none⟩) (show w.heap.size + 1 ≠ g3 by omega) _)
  have Q13 : Hid (At w13 (w.heap.size + 2) 29 [.int .i64 q0, .int .i64 q1]) := Lib.hid (by rw [hw13]; exact Q.out.far (p := ⟨g3, n, none⟩) (show w.heap.size + 2 ≠ g3 by omega) _)
  have L13 : Hid (At w13 gl 57 [.int .i64 g, .int .i64 a, .int .i64 h, .int .i64 b, .int .i64 mc, .int .i64 mz]) := Lib.hid (by rw [hw13]; exact L.out.far (p := ⟨g3, n, none⟩) (show gl ≠ g3 by omega) _)
  have M13 : Hid (At w13 g2 57 (ints [v0, v1, v2, v3, v4, v5])) := Lib.hid (by rw [hw13]; exact M.out.far (p := ⟨g3, n, none⟩) (show g2 ≠ g3 from ng) _)
  have R13 : Hid (At w13 g3 57 (ints [u0, u1, u2, u3, u4, u5])) := Lib.hid (by rw [hw13, ← eu, ints_setI]; exact R.out.put n _)
  have l0 := L13.out.cell (i := 0) rfl
  have l1 := L13.out.cell (i := 1) rfl
  have l2 := L13.out.cell (i := 2) rfl
  have l3 := L13.out.cell (i := 3) rfl
  have l4 := L13.out.cell (i := 4) rfl
  have l5 := L13.out.cell (i := 5) rfl
  have m0 := M13.out.cell (i := 0) (v := .int .i64 v0) rfl
  have m1 := M13.out.cell (i := 1) (v := .int .i64 v1) rfl
  have m2 := M13.out.cell (i := 2) (v := .int .i64 v2) rfl
  have m3 := M13.out.cell (i := 3) (v := .int .i64 v3) rfl
  have m4 := M13.out.cell (i := 4) (v := .int .i64 v4) rfl
  have m5 := M13.out.cell (i := 5) (v := .int .i64 v5) rfl
  have r0 := R13.out.cell (i := 0) (v := .int .i64 u0) rfl
  have r1 := R13.out.cell (i := 1) (v := .int .i64 u1) rfl
  have r2 := R13.out.cell (i := 2) (v := .int .i64 u2) rfl
  have r3 := R13.out.cell (i := 3) (v := .int .i64 u3) rfl
  have r4 := R13.out.cell (i := 4) (v := .int .i64 u4) rfl
  have r5 := R13.out.cell (i := 5) (v := .int .i64 u5) rfl
  have p0 := P13.out.cell (i := 0) rfl
  have p1 := P13.out.cell (i := 1) rfl
  have c0 := S13.out.cell (i := 0) rfl
  have c1 := S13.out.cell (i := 1) rfl
  have c2 := S13.out.cell (i := 2) rfl
  have k1 := Q13.out.cell (i := 1) rfl
  rw [hw13] at l0 l1 l2 l3 l4 l5 m0 m1 m2 m3 m4 m5 r0 r1 r2 r3 r4 r5 p0 p1 c0 c1 c2 k1
  go_wp2_with fail
  have V14 := Lib.hid (At.new w13 57 (ints [g, a, h, b, mc, mz, v0, v1, v2, v3, v4, v5, u0, u1, u2, u3, u4, u5, g, a, h, b, pc, pz, s0, s1, s2, q1, pc, pz]))
  have hz13 : w13.heap.size = w12.heap.size := by rw [hw13]; simp
  rw [hz13] at V14
  replace O := Lib.hid (O13.out.alloc (.cells (ints [g, a, h, b, mc, mz, v0, v1, v2, v3, v4, v5, u0, u1, u2, u3, u4, u5, g, a, h, b, pc, pz, s0, s1, s2, q1, pc, pz]).toArray 57))
  rw [hw13] at V14 O
  obtain ⟨fl, hfl⟩ : ∃ fl, fl = [g, a, h, b, mc, mz, v0, v1, v2, v3, v4, v5, u0, u1, u2, u3, u4, u5, g, a, h, b, pc, pz, s0, s1, s2, q1, pc, pz] := ⟨_, rfl⟩
  have HFL := Lib.hid (show fl.length = 30 from by rw [hfl]; rfl)
  have HFI := Lib.hid (show ∀ x ∈ fl, I64 x from by
    rw [hfl]
    obtain ⟨z1, z2, z3, z4, z5, z6, z7, z8, z9, z10, z11, z12, z13, z14⟩ := HI.out
    have hu : ∀ x ∈ [u0, u1, u2, u3, u4, u5], I64 x := HU.out
    have hv : ∀ x ∈ [v0, v1, v2, v3, v4, v5], I64 x := HV.out
    intro x hx
    simp only [List.mem_cons, List.not_mem_nil, or_false] at hx hu hv
    rcases hx with h | h | h | h | h | h | h | h | h | h | h | h | h | h | h | h | h | h | h | h | h | h | h | h | h | h | h | h | h | h <;> subst h <;> first | assumption | (apply hv; simp) | (apply hu; simp))
  rw [← hfl] at V14 O
  have hcf : (Obj.cells (ints fl).toArray 57) = .cells #[.int .i64 g, .int .i64 a, .int .i64 h, .int .i64 b, .int .i64 mc, .int .i64 mz, .int .i64 v0, .int .i64 v1, .int .i64 v2, .int .i64 v3, .int .i64 v4, .int .i64 v5, .int .i64 u0, .int .i64 u1, .int .i64 u2, .int .i64 u3, .int .i64 u4, .int .i64 u5, .int .i64 g, .int .i64 a, .int .i64 h, .int .i64 b, .int .i64 pc, .int .i64 pz, .int .i64 s0, .int .i64 s1, .int .i64 s2, .int .i64 q1, .int .i64 pc, .int .i64 pz] 57 := by rw [hfl]; rfl
  rw [hcf] at V14 O
  clear hcf
  generalize (w12.setCell ⟨g3, n, none⟩ (.int .i64 rv)).alloc (.cells #[.int .i64 g, .int .i64 a, .int .i64 h, .int .i64 b, .int .i64 mc, .int .i64 mz, .int .i64 v0, .int .i64 v1, .int .i64 v2, .int .i64 v3, .int .i64 v4, .int .i64 v5, .int .i64 u0, .int .i64 u1, .int .i64 u2, .int .i64 u3, .int .i64 u4, .int .i64 u5, .int .i64 g, .int .i64 a, .int .i64 h, .int .i64 b, .int .i64 pc, .int .i64 pz, .int .i64 s0, .int .i64 s1, .int .i64 s2, .int .i64 q1, .int .i64 pc, .int .i64 pz] 57) = w14 at V14 O ⊢
  generalize w12.heap.size = gv at *
  clear l0 l1 l2 l3 l4 l5 m0 m1 m2 m3 m4 m5 r0 r1 r2 r3 r4 r5 p0 p1 c0 c1 c2 k1 cz fz O13 S13 P13 Q13 L13 M13 R13 hfl hw13 hz13 ng n7 n8 e1 e2 n1 n2 hn S P Q L M R HU HV ev eu HLM HIM HXI HYI HRI HXM ey hm HG7 HG10 HN hlm HI
  go_loopw [6, 17, 18, 101] (fun rv xv yv iv wr => ∃ k : Nat, k ≤ 5 ∧ rv = .bool false ∧ iv = .int .i64 k ∧ Hid (At wr gv 57 (ints fl)) ∧ Hid (Only (fun _ => False) w wr)) (fun _ _ _ iv _ => (5 - intOf iv).toNat)
  case atStart => exact ⟨0, by omega, rfl, rfl, V14, O⟩
  case round =>
    obtain ⟨k, hk, rfl, rfl, V, O2⟩ := hrel
    by_cases hlt : k < 5
    · have i1 : (k : Int) < 5 := by omega
      have c0 : wr.cell? ⟨gv, k * 6, none⟩ = some (.int .i64 (fl.getD (k * 6) 0)) := V.out.cell (by rw [ints, List.getElem?_map, get_getD (by rw [HFL.out]; omega)]; rfl)
      have x0 := Lib.hid (HFI.out _ (getD_mem (l := fl) (k := k * 6) (by rw [HFL.out]; omega)))
      have c1 : wr.cell? ⟨gv, k * 6 + 1, none⟩ = some (.int .i64 (fl.getD (k * 6 + 1) 0)) := V.out.cell (by rw [ints, List.getElem?_map, get_getD (by rw [HFL.out]; omega)]; rfl)
      have x1 := Lib.hid (HFI.out _ (getD_mem (l := fl) (k := k * 6 + 1) (by rw [HFL.out]; omega)))
      have c2 : wr.cell? ⟨gv, k * 6 + 2, none⟩ = some (.int .i64 (fl.getD (k * 6 + 2) 0)) := V.out.cell (by rw [ints, List.getElem?_map, get_getD (by rw [HFL.out]; omega)]; rfl)
      have x2 := Lib.hid (HFI.out _ (getD_mem (l := fl) (k := k * 6 + 2) (by rw [HFL.out]; omega)))
      have c3 : wr.cell? ⟨gv, k * 6 + 3, none⟩ = some (.int .i64 (fl.getD (k * 6 + 3) 0)) := V.out.cell (by rw [ints, List.getElem?_map, get_getD (by rw [HFL.out]; omega)]; rfl)
      have x3 := Lib.hid (HFI.out _ (getD_mem (l := fl) (k := k * 6 + 3) (by rw [HFL.out]; omega)))
      have c4 : wr.cell? ⟨gv, k * 6 + 4, none⟩ = some (.int .i64 (fl.getD (k * 6 + 4) 0)) := V.out.cell (by rw [ints, List.getElem?_map, get_getD (by rw [HFL.out]; omega)]; rfl)
      have x4 := Lib.hid (HFI.out _ (getD_mem (l := fl) (k := k * 6 + 4) (by rw [HFL.out]; omega)))
      have c5 : wr.cell? ⟨gv, k * 6 + 5, none⟩ = some (.int .i64 (fl.getD (k * 6 + 5) 0)) := V.out.cell (by rw [ints, List.getElem?_map, get_getD (by rw [HFL.out]; omega)]; rfl)
      have x5 := Lib.hid (HFI.out _ (getD_mem (l := fl) (k := k * 6 + 5) (by rw [HFL.out]; omega)))
      generalize fl.getD (k * 6 + 1) 0 = y11 at *
      generalize fl.getD (k * 6 + 2) 0 = y12 at *
      generalize fl.getD (k * 6 + 3) 0 = y13 at *
      generalize fl.getD (k * 6 + 4) 0 = y14 at *
      generalize fl.getD (k * 6 + 5) 0 = y15 at *
      generalize fl.getD (k * 6) 0 = y10 at *
      have VE := Lib.hid (fun W (o : Only (fun _ => False) w W) => everify_any y10 y11 y12 y13 y14 y15 W (HT.out.only o) x0.out x1.out x2.out x3.out x4.out x5.out)
      have VR := Lib.hid (fun W => rverify6_any y10 y11 y12 y13 y14 y15 W x0.out x1.out x2.out x3.out x4.out x5.out)
      generalize verE y10 y11 y12 y13 y14 y15 = bv at *
      clear x0 x1 x2 x3 x4 x5
      have D0 := Lib.hid (At.new wr 57 [.int .i64 y10, .int .i64 y11, .int .i64 y12, .int .i64 y13, .int .i64 y14, .int .i64 y15])
      have V0 := Lib.hid (V.out.alloc (.cells [.int .i64 y10, .int .i64 y11, .int .i64 y12, .int .i64 y13, .int .i64 y14, .int .i64 y15].toArray 57))
      have o0 := Lib.hid (O2.out.alloc (.cells [.int .i64 y10, .int .i64 y11, .int .i64 y12, .int .i64 y13, .int .i64 y14, .int .i64 y15].toArray 57))
      have d4 := D0.out.cell (i := 4) rfl
      have d5 := D0.out.cell (i := 5) rfl
      go_wp2_with fail
      have Y0 := Lib.hid (At.new (wr.alloc (.cells #[.int .i64 y10, .int .i64 y11, .int .i64 y12, .int .i64 y13, .int .i64 y14, .int .i64 y15] 57)) 26 [.int .i64 y14, .int .i64 y15])
      have D1 := Lib.hid (D0.out.alloc (.cells [.int .i64 y14, .int .i64 y15].toArray 26))
      have V1 := Lib.hid (V0.out.alloc (.cells [.int .i64 y14, .int .i64 y15].toArray 26))
      have o1 := Lib.hid (o0.out.alloc (.cells [.int .i64 y14, .int .i64 y15].toArray 26))
      clear c0 c1 c2 c3 c4 c5 d4 d5 D0 V0 o0
      obtain ⟨w15, hw15⟩ : ∃ w15, w15 = (wr.alloc (.cells #[.int .i64 y10, .int .i64 y11, .int .i64 y12, .int .i64 y13, .int .i64 y14, .int .i64 y15] 57)).alloc (.cells #[.int .i64 y14, .int .i64 y15] 26) := ⟨_, rfl⟩
      rw [← hw15]
      have D : Hid (At w15 wr.heap.size 57 [.int .i64 y10, .int .i64 y11, .int .i64 y12, .int .i64 y13, .int .i64 y14, .int .i64 y15]) := Lib.hid (by rw [hw15]; exact D1.out)
      have Y : Hid (At w15 (wr.heap.size + 1) 26 [.int .i64 y14, .int .i64 y15]) := Lib.hid (by rw [hw15]; have := Y0.out; simpa using this)
      have VV : Hid (At w15 gv 57 (ints fl)) := Lib.hid (by rw [hw15]; exact V1.out)
      have OO : Hid (Only (fun _ => False) w w15) := Lib.hid (by rw [hw15]; exact o1.out)
      clear hw15 Y0 D1 V1 o1 V O2
      obtain ⟨X, F, FM⟩ := fam w15
      have NE := FM.ne
      have c0 := FM.cell (D.out.cell (i := 0) rfl)
      have c1 := FM.cell (D.out.cell (i := 1) rfl)
      have c2 := FM.cell (D.out.cell (i := 2) rfl)
      have c3 := FM.cell (D.out.cell (i := 3) rfl)
      have p0 := FM.cell (Y.out.cell (i := 0) rfl)
      have p1 := FM.cell (Y.out.cell (i := 1) rfl)
      have OX := Lib.hid (fun x => OO.out.trans (FM.own x) (fun _ _ h => h))
      refine FM.region (by kernel_rfl) (by kernel_rfl) ?_
      repeat (first | go_big_quiet_step ((first | (go_at_call 31; with_reducible exact FM.call (VE.out _ (OX.out _))) | (go_at_call 22; with_reducible exact FM.call (VR.out _)))) | quiet_step (fail))
      refine wpQuiet_nil ?_
      intro x9
      have VZ := Lib.hid (VV.out.only (FM.own x9) (fun h => h))
      have OZ := Lib.hid (OX.out x9)
      generalize F x9 = w16 at VZ OZ ⊢
      clear FM NE c0 c1 c2 c3 p0 p1 VE VR OX VV OO D Y
      have hbv : (bv != bv) = false := by cases bv <;> rfl
      go_wp2_with fail
      go_round
      case rel => exact ⟨k + 1, by omega, rfl, by go_num, VZ, OZ⟩
      case measure => simp [intOf]; omega
    · obtain rfl : k = 5 := by omega
      go_wp2_with fail
      go_ret
      exact ⟨rfl, O2.out⟩
end Go.Proofs.YtoekhpnapnhefaaGreatDoor

namespace Go.Proofs.YtoekhpnapnhefaaGreatDoor
open Go.ChangeShapes Go.WideShapes Go.ChangeAt Go.RowKit
set_option linter.unusedVariables false
set_option linter.unusedSimpArgs false

def ckTy : Ty := .st [.int .i64, .int .i64]
theorem ck_arg {W : World} {x : ckTy.Val} {c : List Value} {v : Value} (h : Holds W ckTy x c) (hv : IsV ckTy c v) :
    v = .agg #[.int .i64 x.1, .int .i64 x.2.1] ∧ I64 x.1 ∧ I64 x.2.1 := by
  obtain ⟨⟨h0, k0⟩, ⟨h1, k1⟩, h5⟩ := h
  have e0 := cons_of_take h0
  have e1 := cons_of_take h1
  simp only [Ty.size] at e0 e1 h5
  have hv' : v = .agg c.toArray := hv
  rw [h5] at e1
  rw [e1] at e0
  exact ⟨by rw [hv', e0], i64_wf' k0, i64_wf' k1⟩
theorem equalChecks_walk (W : World) (vals : Ty.Vals [.arr 3 (.int .i64), ckTy, .arr 2 (.int .i64)]) (args : List Value) (h : ArgsHold W [.arr 3 (.int .i64), ckTy, .arr 2 (.int .i64)] vals args) (hs : SmallAll [.arr 3 (.int .i64), ckTy, .arr 2 (.int .i64)] vals) (hL : laidMetH Tryz.prog Rows.equalChecksRow.laid W) (hO : W.ShapedOpen Tryz.prog) :
    Calls Tryz.prog 7 args.toArray W fun e W' => e = .returned (.bool true) ∧ Below W.heap.size W W' := by
  obtain ⟨s, p, q, _⟩ := vals
  obtain ⟨c0, v0, r0, rfl, h0, i0, c1, v1, r1, rfl, h1, i1, c2, v2, r2, rfl, h2, i2, rfl⟩ := h
  obtain ⟨rfl, hs', ks⟩ := arr_ints h0 i0
  obtain ⟨rfl, k0, k1⟩ := ck_arg h1 i1
  obtain ⟨rfl, hq, kq⟩ := arr_ints h2 i2
  have hs2 : List.length (α := Int) s = 3 := hs'
  have hq2 : List.length (α := Int) q = 2 := hq
  match s, hs2, ks, q, hq2, kq with
  | [a, b, d], _, ks, [x, y], _, kq =>
    refine (equalChecks_any a b d p.1 p.2.1 x y W (tab_of hL) (maxL_of hO) (ks a (.head _)) (ks b (.tail _ (.head _))) (ks d (.tail _ (.tail _ (.head _)))) k0 k1 (kq x (.head _)) (kq y (.tail _ (.head _)))).mono ?_
    rintro e w' ⟨h1, o⟩
    exact ⟨h1, o.below (fun _ h => h.elim) (Nat.le_refl _)⟩
theorem equalChecks_reads (os : Os) {H : Type} (enc : TypeId × Value → H) : ∃ places, DataW.whole enc Tryz.prog ((laidWorld os).forCall (fun _ _ => 0) ⟨#[], #[.agg #[.int .i64 0, .int .i64 0, .int .i64 0], .agg #[.int .i64 0, .int .i64 0], .agg #[.int .i64 0, .int .i64 0]], []⟩).memory Tryz.f7.params.toList Rows.equalChecksSpec.vars false (#[.agg #[.int .i64 0, .int .i64 0, .int .i64 0], .agg #[.int .i64 0, .int .i64 0], .agg #[.int .i64 0, .int .i64 0]] : Array Value).toList 8 = some ([.agg [.lit (.int .i64 0), .lit (.int .i64 0), .lit (.int .i64 0)], .agg [.lit (.int .i64 0), .lit (.int .i64 0)], .agg [.lit (.int .i64 0), .lit (.int .i64 0)]], [], places) :=
  ⟨[], by kernel_rfl⟩
set_option maxRecDepth 100000 in
theorem equalChecks_lifted (os : Os) (started : os.Started) (H : Type) (enc : TypeId × Value → H) (F : Stop.Interp) :
    ReturnsInHanded {} Tryz.checked os 7 .any ((OpenSpec.ofChange Rows.equalChecksSpec).preRow enc Tryz.prog Tryz.f7 Rows.equalChecksRow.domain false Rows.equalChecksRow.laid) (((OpenSpec.ofChange Rows.equalChecksSpec).at F).post enc Tryz.prog Tryz.f7 false true false false) := by
  obtain ⟨places, hx⟩ := equalChecks_reads os enc
  refine row_lifted 7 Tryz.f7 Rows.equalChecksSpec Rows.equalChecksRow.domain Rows.equalChecksRow.laid [.arr 3 (.int .i64), ckTy, .arr 2 (.int .i64)] 4 os started H enc F Tryz.func7 (by kernel_rfl) rfl rfl (by kernel_rfl) Tryz.underlying4 (by kernel_rfl) (by kernel_rfl) ?_
    (witness_row_at (enc := enc) (C := Tryz.checked) false (laidWorld os) #[.agg #[.int .i64 0, .int .i64 0, .int .i64 0], .agg #[.int .i64 0, .int .i64 0], .agg #[.int .i64 0, .int .i64 0]] rfl (by kernel_rfl) (by kernel_rfl) (by kernel_rfl)
      (OpenSpec.preRow_of_cond 8 hx (by kernel_rfl) (fun k hk => by cases hk) (by kernel_rfl) (laid_met5 os _))) equalChecks_walk
  intro ds hd
  match ds, hd with
  | [d1, d2, d3], _ => rfl
theorem equalChecks_said : Rows.EqualChecksSaid :=
  OpenClaim.holds_of_cond 7 Tryz.f7 rfl rfl rfl rfl rfl rfl rfl ⟨rfl, rfl, rfl, rfl, rfl⟩ rfl rfl rfl rfl rfl (by kernel_rfl) Tryz.func7 (by kernel_rfl)
    (of_decide_eq_true (by kernel_rfl)) (by unfold Func.isWrapper; first | (rw [if_pos (by decide +kernel)]; kernel_rfl) | (rw [if_neg (by decide +kernel)]; exact ⟨rfl, rfl⟩))
    (fun os started H enc _ F => by rw [OpenClaim.pre_eq_preRow]; exact equalChecks_lifted os started H enc F)
theorem equalChecks_plain (f : FuncId) (fn : Func) (hf : Tryz.pinned.checked.prog.funcNamed "sortes/sorteslaw06.EqualChecks" = some f) (hfn : Tryz.pinned.checked.prog.funcs[f]? = some fn) :
    true = Tryz.pinned.checked.prog.looks [] ∧ ∀ (j : Nat) t, fn.params[j]? = some t → Tryz.pinned.checked.prog.wantsStandIn t = false := by
  obtain rfl : f = 7 := Option.some.inj ((show Tryz.prog.funcNamed "sortes/sorteslaw06.EqualChecks" = some 7 by kernel_rfl).symm.trans hf) |>.symm
  obtain rfl : fn = Tryz.f7 := (Option.some.inj (Tryz.func7.symm.trans hfn)).symm
  refine ⟨by kernel_rfl, fun j t ht => ?_⟩
  have hall : Tryz.f7.params.toList.all (fun t => Tryz.prog.wantsStandIn t == false) = true := by kernel_rfl
  have := List.all_eq_true.1 hall t (by simpa using Array.mem_of_getElem? ht)
  exact eq_of_beq this
theorem equalChecks_holds : Rows.EqualChecksCardSaid :=
  Claim7.holds_tied_plain_at .later [] _ _ _ _ equalChecks_said (fun _ h => by cases h) (by kernel_rfl) (fun _ h => by cases h) equalChecks_row_tie rfl ⟨rfl, rfl⟩ (by kernel_rfl) rfl equalChecks_plain (by kernel_rfl)
end Go.Proofs.YtoekhpnapnhefaaGreatDoor
