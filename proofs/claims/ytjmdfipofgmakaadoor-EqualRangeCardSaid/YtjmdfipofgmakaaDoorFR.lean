/-
  EqualRange: walk.
  Proved: sorteslaw06.EqualRange returns true for all numbers, never panics, and leaves its arguments as they were. Conditions: those of the given row (what the row's variables hold is what their initialisers lay; strings take at most the bytes that the row allows).
-/
import Derived.Test.YtjmdfipofgmakaaDoorFO
import Derived.Test.YtjmdfipofgmakaaDoorME
namespace Go.Proofs.YtjmdfipofgmakaaDoor
open Go.RowKit Go.Shelf
set_option linter.unusedVariables false
set_option linter.unusedSimpArgs false

theorem verE_low {g a h b c z : Int} (hc : ¬ (0 ≤ c ∧ c < 1152921504606845789)) : verE g a h b c z = false := by
  have : (decide (0 ≤ c) && decide (c < 1152921504606845789)) = false := by
    cases hb : (decide (0 ≤ c) && decide (c < 1152921504606845789)) with
    | false => rfl
    | true => simp only [Bool.and_eq_true, decide_eq_true_eq] at hb; exact absurd hb hc
  unfold verE
  rw [this, Bool.false_and, Bool.and_false]
theorem verE_lowz {g a h b c z : Int} (hz : ¬ (0 ≤ z ∧ z < 1152921504606845789)) : verE g a h b c z = false := by
  have : (decide (0 ≤ z) && decide (z < 1152921504606845789)) = false := by
    cases hb : (decide (0 ≤ z) && decide (z < 1152921504606845789)) with
    | false => rfl
    | true => simp only [Bool.and_eq_true, decide_eq_true_eq] at hb; exact absurd hb hz
  unfold verE
  rw [this, Bool.false_and, Bool.and_false, Bool.and_false]
theorem verE_out {g a h b c z : Int} (hm : memB g = false ∨ memB a = false ∨ memB h = false ∨ memB b = false) : verE g a h b c z = false := by
  have : [g, a, h, b].all memB = false := by
    rcases hm with h1 | h1 | h1 | h1 <;> simp [h1]
  unfold verE
  rw [this, Bool.false_and]
theorem mem_neg {a : Int} (h : memB a = true) : memB (2305843009213691579 - a) = false := by
  obtain ⟨A, rfl, hA⟩ := (memB_iff a).1 h
  have hl := hA.2.1
  have q : gP = 2305843009213691579 := rfl
  refine memB_not fun B hB hm => ?_
  have e : B = gP - A := by omega
  rw [e] at hm
  exact neg_not_mem hA hm
theorem mem_zero : memB 0 = false := by unfold memB; rw [decide_eq_false]; omega
theorem mem_high {a : Int} (h : 2305843009213691579 ≤ a) : memB a = false := by unfold memB; rw [decide_eq_false]; omega
theorem alloc_size (w : World) (o : Obj) : (w.alloc o).heap.size = w.heap.size + 1 := by simp
theorem at13 (W : World) (t : TypeId) (x z : List Value) (y : Obj) : At (((W.alloc (.cells x.toArray t)).alloc y).alloc (.cells z.toArray t)) W.heap.size t x ∧ At (((W.alloc (.cells x.toArray t)).alloc y).alloc (.cells z.toArray t)) (W.heap.size + 1 + 1) t z ∧ Only (fun _ => False) W (((W.alloc (.cells x.toArray t)).alloc y).alloc (.cells z.toArray t)) := by
  have e2 : ((W.alloc (.cells x.toArray t)).alloc y).heap.size = W.heap.size + 1 + 1 := by simp
  have a1 := At.new W t x
  have a3 := At.new ((W.alloc (.cells x.toArray t)).alloc y) t z
  rw [e2] at a3
  have o1 := ((Only.refl (fun _ => False) (W.alloc (.cells x.toArray t))).alloc y).alloc (.cells z.toArray t)
  exact ⟨a1.only o1 (fun h => h), a3, (((Only.refl (fun _ => False) W).alloc (.cells x.toArray t)).alloc y).alloc (.cells z.toArray t)⟩
theorem infoProof2 (c z : Int) : (Tryd.prog.info? 75).map (·.size) = some ([Value.int .i64 c, Value.int .i64 z] : List Value).length := infoProof
theorem oneTwo (c z : Int) : ∀ v ∈ ([Value.int .i64 c, Value.int .i64 z] : List Value), v.oneCell' = true := by simp [Value.oneCell']
set_option maxRecDepth 100000 in
set_option maxHeartbeats 2000000 in
theorem equalRange_0 (secret q0 q1 n : Int) (w : World) (ht : Tab w) (hm : MaxL w) (hs : I64 secret) (h0 : I64 q0) (h1 : I64 q1) (n0 : 0 ≤ n) (n1 : n ≤ 255) (hn : n % 4 = 0) :
    Calls Tryd.prog 17 #[.int .i64 secret, .agg #[.int .i64 q0, .int .i64 q1], .int .u8 n] w fun e w' => e = .returned (.bool true) ∧ Only (fun _ => False) w w' := by
  have SA := Lib.hid (sanity6 (w.alloc (.cells [.int .i64 q0, .int .i64 q1].toArray 86)) (ht.only ((Only.refl _ w).alloc _)) (hm.only ((Only.refl _ w).alloc _)))
  have B := Lib.hid (At.new w 86 [.int .i64 q0, .int .i64 q1])
  have O := Lib.hid ((Only.refl (fun _ => False) w).alloc (.cells [.int .i64 q0, .int .i64 q1].toArray 86))
  have E1 := Lib.hid (fun W => relem6_any q0 W h0)
  have E2 := Lib.hid (fun W => relem6_any q1 W h1)
  have m1 := elemE_mem q0
  have m2 := elemE_mem q1
  generalize elemE q0 = x at *
  generalize elemE q1 = y at *
  have r1 := memB_range m1
  have r2 := memB_range m2
  have AD := Lib.hid (fun W => add_any secret 0 1152921504606845789 W (by omega) (by omega) hs (by unfold I64; omega))
  rw [Int.add_zero] at AD
  have PR := Lib.hid (fun W (o : Only (fun _ => False) w W) => eprove_any secret x y W (ht.only o) hs m1 m2)
  have he : 0 ≤ secret % 1152921504606845789 ∧ secret % 1152921504606845789 < 1152921504606845789 := by omega
  generalize secret % 1152921504606845789 = e at *
  have P1 := Lib.hid (fun W => pow_any x e 2305843009213691579 W (by omega) (by omega) (by unfold I64; omega) he.1 (by omega))
  have P2 := Lib.hid (fun W => pow_any y e 2305843009213691579 W (by omega) (by omega) (by unfold I64; omega) he.1 (by omega))
  rw [show pm x e.toNat 2305843009213691579 = pP x e from rfl] at P1
  rw [show pm y e.toNat 2305843009213691579 = pP y e from rfl] at P2
  have hk := scalE_range wNonce [e, x, y]
  rw [show scalE wNonce [e, x, y] = provK e x y from rfl] at hk
  have VM := verE_made m1 m2 he.1 hk.1
  have rc : 0 ≤ provC e x y (provK e x y) ∧ provC e x y (provK e x y) < 1152921504606845789 := scalE_range _ _
  have rz : 0 ≤ provZ e x y (provK e x y) ∧ provZ e x y (provK e x y) < 1152921504606845789 := by unfold provZ; omega
  have ra := pP_range x e
  have rb := pP_range y e
  have ma := pP_mem m1 he.1
  have mb := pP_mem m2 he.1
  generalize provC e x y (provK e x y) = c at *
  generalize provZ e x y (provK e x y) = z at *
  generalize pP x e = a at *
  generalize pP y e = b at *
  have ix : I64 x := by unfold I64; omega
  have iy : I64 y := by unfold I64; omega
  have ia := i64_of ra (by omega)
  have ib := i64_of rb (by omega)
  have ic := i64_of rc (by omega)
  have iz := i64_of rz (by omega)
  have V0 := Lib.hid (fun W (o : Only (fun _ => False) w W) => everify_any x a y b c z W (ht.only o) ix ia iy ib ic iz)
  rw [VM] at V0
  have V1 := Lib.hid (fun W (o : Only (fun _ => False) w W) => everify_any x a y b (c + 1152921504606845789) (z) W (ht.only o) ix ia iy ib (by unfold I64; omega) (by unfold I64; omega))
  rw [verE_low (by omega)] at V1
  have V2 := Lib.hid (fun W (o : Only (fun _ => False) w W) => everify_any x (2305843009213691579 - a) y b c z W (ht.only o) ix (by unfold I64; omega) iy ib ic iz)
  rw [verE_out (.inr (.inl (mem_neg ma)))] at V2
  have V3 := Lib.hid (fun W (o : Only (fun _ => False) w W) => everify_any x a y (2305843009213691579 - b) c z W (ht.only o) ix ia iy (by unfold I64; omega) ic iz)
  rw [verE_out (.inr (.inr (.inr (mem_neg mb))))] at V3
  have V4 := Lib.hid (fun W (o : Only (fun _ => False) w W) => everify_any (2305843009213691579 - x) a y b c z W (ht.only o) (by unfold I64; omega) ia iy ib ic iz)
  rw [verE_out (.inl (mem_neg m1))] at V4
  have V5 := Lib.hid (fun W (o : Only (fun _ => False) w W) => everify_any x a 0 b c z W (ht.only o) ix ia (by unfold I64; omega) ib ic iz)
  rw [verE_out (.inr (.inr (.inl mem_zero)))] at V5
  have V6 := Lib.hid (fun W (o : Only (fun _ => False) w W) => everify_any x (a + 2305843009213691579) y b c z W (ht.only o) ix (by unfold I64; omega) iy ib ic iz)
  rw [verE_out (.inr (.inl (mem_high (by omega))))] at V6
  have vi0 : IntKind.i64.wrap (c + 1152921504606845789) = c + 1152921504606845789 := IntWalk.i64_in _ (by omega)
  have vw0 : wrap64 (c + 1152921504606845789) = c + 1152921504606845789 := by unfold wrap64; omega
  have vi1 : IntKind.i64.wrap (z + 1152921504606845789) = z + 1152921504606845789 := IntWalk.i64_in _ (by omega)
  have vw1 : wrap64 (z + 1152921504606845789) = z + 1152921504606845789 := by unfold wrap64; omega
  have vi2 : IntKind.i64.wrap (c - 1152921504606845789) = c - 1152921504606845789 := IntWalk.i64_in _ (by omega)
  have vw2 : wrap64 (c - 1152921504606845789) = c - 1152921504606845789 := by unfold wrap64; omega
  have vi3 : IntKind.i64.wrap (z - 1152921504606845789) = z - 1152921504606845789 := IntWalk.i64_in _ (by omega)
  have vw3 : wrap64 (z - 1152921504606845789) = z - 1152921504606845789 := by unfold wrap64; omega
  have vi4 : IntKind.i64.wrap (2305843009213691579 - a) = 2305843009213691579 - a := IntWalk.i64_in _ (by omega)
  have vw4 : wrap64 (2305843009213691579 - a) = 2305843009213691579 - a := by unfold wrap64; omega
  have vi5 : IntKind.i64.wrap (2305843009213691579 - b) = 2305843009213691579 - b := IntWalk.i64_in _ (by omega)
  have vw5 : wrap64 (2305843009213691579 - b) = 2305843009213691579 - b := by unfold wrap64; omega
  have vi6 : IntKind.i64.wrap (2305843009213691579 - x) = 2305843009213691579 - x := IntWalk.i64_in _ (by omega)
  have vw6 : wrap64 (2305843009213691579 - x) = 2305843009213691579 - x := by unfold wrap64; omega
  have vi7 : IntKind.i64.wrap (a + 2305843009213691579) = a + 2305843009213691579 := IntWalk.i64_in _ (by omega)
  have vw7 : wrap64 (a + 2305843009213691579) = a + 2305843009213691579 := by unfold wrap64; omega
  clear ht hm hs h0 h1 m1 m2 r1 r2 he hk VM rc rz ra rb ma mb ix iy ia ib ic iz
  skip
  go_enter Tryd.func17, Tryd.ntmps17
  go_wp2_with fail
  refine SA.out.mono ?_
  rintro e' w1 ⟨rfl, oo⟩
  replace O := Lib.hid (O.out.trans oo (fun _ _ h => h))
  replace B := Lib.hid (B.out.only oo (fun h => h))
  clear oo SA
  obtain ⟨X, F, FM⟩ := fam w1
  have NE := FM.ne
  have d0 := FM.cell (B.out.cell (i := 0) rfl)
  have d1 := FM.cell (B.out.cell (i := 1) rfl)
  go_wp2_with fail
  refine FM.region (by kernel_rfl) (by kernel_rfl) ?_
  repeat (first | go_big_quiet_step ((first | (go_at_call 51; with_reducible exact FM.call_same (E1.out _)) | (go_at_call 51; with_reducible exact FM.call_same (E2.out _)))) | quiet_step (fail))
  refine wpQuiet_nil ?_
  intro x1
  clear d0 d1
  replace O := Lib.hid (O.out.trans (FM.own x1) (fun _ _ h => h))
  generalize F x1 = w2 at O ⊢
  clear FM NE B
  go_wp2_with fail
  refine (AD.out _).mono ?_
  rintro e ws1 ⟨rfl, rfl⟩
  go_wp2_with fail
  refine (P1.out _).mono ?_
  rintro e wc2 ⟨rfl, oo⟩
  replace O := Lib.hid (O.out.trans oo (fun _ _ h => h))
  clear oo
  go_wp2_with fail
  refine (P2.out _).mono ?_
  rintro e wc3 ⟨rfl, oo⟩
  replace O := Lib.hid (O.out.trans oo (fun _ _ h => h))
  clear oo
  go_wp2_with fail
  refine (PR.out _ O.out).mono ?_
  rintro e' w5 ⟨rfl, oo⟩
  replace O := Lib.hid (O.out.trans oo (fun _ _ h => h))
  clear oo
  go_wp2_with fail
  obtain ⟨A, T, OL⟩ := at13 w5 75 [.int .i64 c, .int .i64 z] [.int .i64 (c + 1152921504606845789), .int .i64 (z)] (.cells #[.int .i64 (c + 1152921504606845789), .int .i64 z, .int .i64 c, .int .i64 (z + 1152921504606845789), .int .i64 (c - 1152921504606845789), .int .i64 z, .int .i64 c, .int .i64 (z - 1152921504606845789)] 75)
  replace O := Lib.hid (O.out.trans OL (fun _ _ h => h))
  replace A := Lib.hid A
  replace T := Lib.hid T
  clear OL
  refine (V0.out _ O.out).mono ?_
  rintro e' wv0 ⟨rfl, oo⟩
  replace O := Lib.hid (O.out.trans oo (fun _ _ h => h))
  replace A := Lib.hid (A.out.only oo (fun h => h))
  replace T := Lib.hid (T.out.only oo (fun h => h))
  clear oo
  have t0 := T.out.cell (i := 0) rfl
  have t1 := T.out.cell (i := 1) rfl
  clear V0
  go_wp2_with fail
  refine (V1.out _ O.out).mono ?_
  rintro e' wv1 ⟨rfl, oo⟩
  replace O := Lib.hid (O.out.trans oo (fun _ _ h => h))
  replace A := Lib.hid (A.out.only oo (fun h => h))
  clear oo t0 t1 T
  have k0 := A.out.cell (i := 0) rfl
  have k1 := A.out.cell (i := 1) rfl
  clear V1
  go_wp2_with fail
  refine (V2.out _ O.out).mono ?_
  rintro e' wv2 ⟨rfl, oo⟩
  replace O := Lib.hid (O.out.trans oo (fun _ _ h => h))
  replace A := Lib.hid (A.out.only oo (fun h => h))
  clear oo k0 k1
  have k0 := A.out.cell (i := 0) rfl
  have k1 := A.out.cell (i := 1) rfl
  clear V2
  go_wp2_with fail
  refine (V3.out _ O.out).mono ?_
  rintro e' wv3 ⟨rfl, oo⟩
  replace O := Lib.hid (O.out.trans oo (fun _ _ h => h))
  replace A := Lib.hid (A.out.only oo (fun h => h))
  clear oo k0 k1
  have k0 := A.out.cell (i := 0) rfl
  have k1 := A.out.cell (i := 1) rfl
  clear V3
  go_wp2_with fail
  refine (V4.out _ O.out).mono ?_
  rintro e' wv4 ⟨rfl, oo⟩
  replace O := Lib.hid (O.out.trans oo (fun _ _ h => h))
  replace A := Lib.hid (A.out.only oo (fun h => h))
  clear oo k0 k1
  have k0 := A.out.cell (i := 0) rfl
  have k1 := A.out.cell (i := 1) rfl
  clear V4
  go_wp2_with fail
  refine (V5.out _ O.out).mono ?_
  rintro e' wv5 ⟨rfl, oo⟩
  replace O := Lib.hid (O.out.trans oo (fun _ _ h => h))
  replace A := Lib.hid (A.out.only oo (fun h => h))
  clear oo k0 k1
  have k0 := A.out.cell (i := 0) rfl
  have k1 := A.out.cell (i := 1) rfl
  clear V5
  go_wp2_with fail
  refine (V6.out _ O.out).mono ?_
  rintro e' wv6 ⟨rfl, oo⟩
  replace O := Lib.hid (O.out.trans oo (fun _ _ h => h))
  replace A := Lib.hid (A.out.only oo (fun h => h))
  clear oo k0 k1
  have k0 := A.out.cell (i := 0) rfl
  have k1 := A.out.cell (i := 1) rfl
  clear V6
  go_wp2_with fail
  go_ret
  exact ⟨rfl, O.out⟩
set_option maxRecDepth 100000 in
set_option maxHeartbeats 2000000 in
theorem equalRange_1 (secret q0 q1 n : Int) (w : World) (ht : Tab w) (hm : MaxL w) (hs : I64 secret) (h0 : I64 q0) (h1 : I64 q1) (n0 : 0 ≤ n) (n1 : n ≤ 255) (hn : n % 4 = 1) :
    Calls Tryd.prog 17 #[.int .i64 secret, .agg #[.int .i64 q0, .int .i64 q1], .int .u8 n] w fun e w' => e = .returned (.bool true) ∧ Only (fun _ => False) w w' := by
  have SA := Lib.hid (sanity6 (w.alloc (.cells [.int .i64 q0, .int .i64 q1].toArray 86)) (ht.only ((Only.refl _ w).alloc _)) (hm.only ((Only.refl _ w).alloc _)))
  have B := Lib.hid (At.new w 86 [.int .i64 q0, .int .i64 q1])
  have O := Lib.hid ((Only.refl (fun _ => False) w).alloc (.cells [.int .i64 q0, .int .i64 q1].toArray 86))
  have E1 := Lib.hid (fun W => relem6_any q0 W h0)
  have E2 := Lib.hid (fun W => relem6_any q1 W h1)
  have m1 := elemE_mem q0
  have m2 := elemE_mem q1
  generalize elemE q0 = x at *
  generalize elemE q1 = y at *
  have r1 := memB_range m1
  have r2 := memB_range m2
  have AD := Lib.hid (fun W => add_any secret 0 1152921504606845789 W (by omega) (by omega) hs (by unfold I64; omega))
  rw [Int.add_zero] at AD
  have PR := Lib.hid (fun W (o : Only (fun _ => False) w W) => eprove_any secret x y W (ht.only o) hs m1 m2)
  have he : 0 ≤ secret % 1152921504606845789 ∧ secret % 1152921504606845789 < 1152921504606845789 := by omega
  generalize secret % 1152921504606845789 = e at *
  have P1 := Lib.hid (fun W => pow_any x e 2305843009213691579 W (by omega) (by omega) (by unfold I64; omega) he.1 (by omega))
  have P2 := Lib.hid (fun W => pow_any y e 2305843009213691579 W (by omega) (by omega) (by unfold I64; omega) he.1 (by omega))
  rw [show pm x e.toNat 2305843009213691579 = pP x e from rfl] at P1
  rw [show pm y e.toNat 2305843009213691579 = pP y e from rfl] at P2
  have hk := scalE_range wNonce [e, x, y]
  rw [show scalE wNonce [e, x, y] = provK e x y from rfl] at hk
  have VM := verE_made m1 m2 he.1 hk.1
  have rc : 0 ≤ provC e x y (provK e x y) ∧ provC e x y (provK e x y) < 1152921504606845789 := scalE_range _ _
  have rz : 0 ≤ provZ e x y (provK e x y) ∧ provZ e x y (provK e x y) < 1152921504606845789 := by unfold provZ; omega
  have ra := pP_range x e
  have rb := pP_range y e
  have ma := pP_mem m1 he.1
  have mb := pP_mem m2 he.1
  generalize provC e x y (provK e x y) = c at *
  generalize provZ e x y (provK e x y) = z at *
  generalize pP x e = a at *
  generalize pP y e = b at *
  have ix : I64 x := by unfold I64; omega
  have iy : I64 y := by unfold I64; omega
  have ia := i64_of ra (by omega)
  have ib := i64_of rb (by omega)
  have ic := i64_of rc (by omega)
  have iz := i64_of rz (by omega)
  have V0 := Lib.hid (fun W (o : Only (fun _ => False) w W) => everify_any x a y b c z W (ht.only o) ix ia iy ib ic iz)
  rw [VM] at V0
  have V1 := Lib.hid (fun W (o : Only (fun _ => False) w W) => everify_any x a y b (c) (z + 1152921504606845789) W (ht.only o) ix ia iy ib (by unfold I64; omega) (by unfold I64; omega))
  rw [verE_lowz (by omega)] at V1
  have V2 := Lib.hid (fun W (o : Only (fun _ => False) w W) => everify_any x (2305843009213691579 - a) y b c z W (ht.only o) ix (by unfold I64; omega) iy ib ic iz)
  rw [verE_out (.inr (.inl (mem_neg ma)))] at V2
  have V3 := Lib.hid (fun W (o : Only (fun _ => False) w W) => everify_any x a y (2305843009213691579 - b) c z W (ht.only o) ix ia iy (by unfold I64; omega) ic iz)
  rw [verE_out (.inr (.inr (.inr (mem_neg mb))))] at V3
  have V4 := Lib.hid (fun W (o : Only (fun _ => False) w W) => everify_any (2305843009213691579 - x) a y b c z W (ht.only o) (by unfold I64; omega) ia iy ib ic iz)
  rw [verE_out (.inl (mem_neg m1))] at V4
  have V5 := Lib.hid (fun W (o : Only (fun _ => False) w W) => everify_any x a 0 b c z W (ht.only o) ix ia (by unfold I64; omega) ib ic iz)
  rw [verE_out (.inr (.inr (.inl mem_zero)))] at V5
  have V6 := Lib.hid (fun W (o : Only (fun _ => False) w W) => everify_any x (a + 2305843009213691579) y b c z W (ht.only o) ix (by unfold I64; omega) iy ib ic iz)
  rw [verE_out (.inr (.inl (mem_high (by omega))))] at V6
  have vi0 : IntKind.i64.wrap (c + 1152921504606845789) = c + 1152921504606845789 := IntWalk.i64_in _ (by omega)
  have vw0 : wrap64 (c + 1152921504606845789) = c + 1152921504606845789 := by unfold wrap64; omega
  have vi1 : IntKind.i64.wrap (z + 1152921504606845789) = z + 1152921504606845789 := IntWalk.i64_in _ (by omega)
  have vw1 : wrap64 (z + 1152921504606845789) = z + 1152921504606845789 := by unfold wrap64; omega
  have vi2 : IntKind.i64.wrap (c - 1152921504606845789) = c - 1152921504606845789 := IntWalk.i64_in _ (by omega)
  have vw2 : wrap64 (c - 1152921504606845789) = c - 1152921504606845789 := by unfold wrap64; omega
  have vi3 : IntKind.i64.wrap (z - 1152921504606845789) = z - 1152921504606845789 := IntWalk.i64_in _ (by omega)
  have vw3 : wrap64 (z - 1152921504606845789) = z - 1152921504606845789 := by unfold wrap64; omega
  have vi4 : IntKind.i64.wrap (2305843009213691579 - a) = 2305843009213691579 - a := IntWalk.i64_in _ (by omega)
  have vw4 : wrap64 (2305843009213691579 - a) = 2305843009213691579 - a := by unfold wrap64; omega
  have vi5 : IntKind.i64.wrap (2305843009213691579 - b) = 2305843009213691579 - b := IntWalk.i64_in _ (by omega)
  have vw5 : wrap64 (2305843009213691579 - b) = 2305843009213691579 - b := by unfold wrap64; omega
  have vi6 : IntKind.i64.wrap (2305843009213691579 - x) = 2305843009213691579 - x := IntWalk.i64_in _ (by omega)
  have vw6 : wrap64 (2305843009213691579 - x) = 2305843009213691579 - x := by unfold wrap64; omega
  have vi7 : IntKind.i64.wrap (a + 2305843009213691579) = a + 2305843009213691579 := IntWalk.i64_in _ (by omega)
  have vw7 : wrap64 (a + 2305843009213691579) = a + 2305843009213691579 := by unfold wrap64; omega
  clear ht hm hs h0 h1 m1 m2 r1 r2 he hk VM rc rz ra rb ma mb ix iy ia ib ic iz
  skip
  go_enter Tryd.func17, Tryd.ntmps17
  go_wp2_with fail
  refine SA.out.mono ?_
  rintro e' w1 ⟨rfl, oo⟩
  replace O := Lib.hid (O.out.trans oo (fun _ _ h => h))
  replace B := Lib.hid (B.out.only oo (fun h => h))
  clear oo SA
  obtain ⟨X, F, FM⟩ := fam w1
  have NE := FM.ne
  have d0 := FM.cell (B.out.cell (i := 0) rfl)
  have d1 := FM.cell (B.out.cell (i := 1) rfl)
  go_wp2_with fail
  refine FM.region (by kernel_rfl) (by kernel_rfl) ?_
  repeat (first | go_big_quiet_step ((first | (go_at_call 51; with_reducible exact FM.call_same (E1.out _)) | (go_at_call 51; with_reducible exact FM.call_same (E2.out _)))) | quiet_step (fail))
  refine wpQuiet_nil ?_
  intro x1
  clear d0 d1
  replace O := Lib.hid (O.out.trans (FM.own x1) (fun _ _ h => h))
  generalize F x1 = w2 at O ⊢
  clear FM NE B
  go_wp2_with fail
  refine (AD.out _).mono ?_
  rintro e ws4 ⟨rfl, rfl⟩
  go_wp2_with fail
  refine (P1.out _).mono ?_
  rintro e wc5 ⟨rfl, oo⟩
  replace O := Lib.hid (O.out.trans oo (fun _ _ h => h))
  clear oo
  go_wp2_with fail
  refine (P2.out _).mono ?_
  rintro e wc6 ⟨rfl, oo⟩
  replace O := Lib.hid (O.out.trans oo (fun _ _ h => h))
  clear oo
  go_wp2_with fail
  refine (PR.out _ O.out).mono ?_
  rintro e' w5 ⟨rfl, oo⟩
  replace O := Lib.hid (O.out.trans oo (fun _ _ h => h))
  clear oo
  go_wp2_with fail
  obtain ⟨A, T, OL⟩ := at13 w5 75 [.int .i64 c, .int .i64 z] [.int .i64 (c), .int .i64 (z + 1152921504606845789)] (.cells #[.int .i64 (c + 1152921504606845789), .int .i64 z, .int .i64 c, .int .i64 (z + 1152921504606845789), .int .i64 (c - 1152921504606845789), .int .i64 z, .int .i64 c, .int .i64 (z - 1152921504606845789)] 75)
  replace O := Lib.hid (O.out.trans OL (fun _ _ h => h))
  replace A := Lib.hid A
  replace T := Lib.hid T
  clear OL
  refine (V0.out _ O.out).mono ?_
  rintro e' wv0 ⟨rfl, oo⟩
  replace O := Lib.hid (O.out.trans oo (fun _ _ h => h))
  replace A := Lib.hid (A.out.only oo (fun h => h))
  replace T := Lib.hid (T.out.only oo (fun h => h))
  clear oo
  have t0 := T.out.cell (i := 0) rfl
  have t1 := T.out.cell (i := 1) rfl
  clear V0
  go_wp2_with fail
  refine (V1.out _ O.out).mono ?_
  rintro e' wv1 ⟨rfl, oo⟩
  replace O := Lib.hid (O.out.trans oo (fun _ _ h => h))
  replace A := Lib.hid (A.out.only oo (fun h => h))
  clear oo t0 t1 T
  have k0 := A.out.cell (i := 0) rfl
  have k1 := A.out.cell (i := 1) rfl
  clear V1
  go_wp2_with fail
  refine (V2.out _ O.out).mono ?_
  rintro e' wv2 ⟨rfl, oo⟩
  replace O := Lib.hid (O.out.trans oo (fun _ _ h => h))
  replace A := Lib.hid (A.out.only oo (fun h => h))
  clear oo k0 k1
  have k0 := A.out.cell (i := 0) rfl
  have k1 := A.out.cell (i := 1) rfl
  clear V2
  go_wp2_with fail
  refine (V3.out _ O.out).mono ?_
  rintro e' wv3 ⟨rfl, oo⟩
  replace O := Lib.hid (O.out.trans oo (fun _ _ h => h))
  replace A := Lib.hid (A.out.only oo (fun h => h))
  clear oo k0 k1
  have k0 := A.out.cell (i := 0) rfl
  have k1 := A.out.cell (i := 1) rfl
  clear V3
  go_wp2_with fail
  refine (V4.out _ O.out).mono ?_
  rintro e' wv4 ⟨rfl, oo⟩
  replace O := Lib.hid (O.out.trans oo (fun _ _ h => h))
  replace A := Lib.hid (A.out.only oo (fun h => h))
  clear oo k0 k1
  have k0 := A.out.cell (i := 0) rfl
  have k1 := A.out.cell (i := 1) rfl
  clear V4
  go_wp2_with fail
  refine (V5.out _ O.out).mono ?_
  rintro e' wv5 ⟨rfl, oo⟩
  replace O := Lib.hid (O.out.trans oo (fun _ _ h => h))
  replace A := Lib.hid (A.out.only oo (fun h => h))
  clear oo k0 k1
  have k0 := A.out.cell (i := 0) rfl
  have k1 := A.out.cell (i := 1) rfl
  clear V5
  go_wp2_with fail
  refine (V6.out _ O.out).mono ?_
  rintro e' wv6 ⟨rfl, oo⟩
  replace O := Lib.hid (O.out.trans oo (fun _ _ h => h))
  replace A := Lib.hid (A.out.only oo (fun h => h))
  clear oo k0 k1
  have k0 := A.out.cell (i := 0) rfl
  have k1 := A.out.cell (i := 1) rfl
  clear V6
  go_wp2_with fail
  go_ret
  exact ⟨rfl, O.out⟩
set_option maxRecDepth 100000 in
set_option maxHeartbeats 2000000 in
theorem equalRange_2 (secret q0 q1 n : Int) (w : World) (ht : Tab w) (hm : MaxL w) (hs : I64 secret) (h0 : I64 q0) (h1 : I64 q1) (n0 : 0 ≤ n) (n1 : n ≤ 255) (hn : n % 4 = 2) :
    Calls Tryd.prog 17 #[.int .i64 secret, .agg #[.int .i64 q0, .int .i64 q1], .int .u8 n] w fun e w' => e = .returned (.bool true) ∧ Only (fun _ => False) w w' := by
  have SA := Lib.hid (sanity6 (w.alloc (.cells [.int .i64 q0, .int .i64 q1].toArray 86)) (ht.only ((Only.refl _ w).alloc _)) (hm.only ((Only.refl _ w).alloc _)))
  have B := Lib.hid (At.new w 86 [.int .i64 q0, .int .i64 q1])
  have O := Lib.hid ((Only.refl (fun _ => False) w).alloc (.cells [.int .i64 q0, .int .i64 q1].toArray 86))
  have E1 := Lib.hid (fun W => relem6_any q0 W h0)
  have E2 := Lib.hid (fun W => relem6_any q1 W h1)
  have m1 := elemE_mem q0
  have m2 := elemE_mem q1
  generalize elemE q0 = x at *
  generalize elemE q1 = y at *
  have r1 := memB_range m1
  have r2 := memB_range m2
  have AD := Lib.hid (fun W => add_any secret 0 1152921504606845789 W (by omega) (by omega) hs (by unfold I64; omega))
  rw [Int.add_zero] at AD
  have PR := Lib.hid (fun W (o : Only (fun _ => False) w W) => eprove_any secret x y W (ht.only o) hs m1 m2)
  have he : 0 ≤ secret % 1152921504606845789 ∧ secret % 1152921504606845789 < 1152921504606845789 := by omega
  generalize secret % 1152921504606845789 = e at *
  have P1 := Lib.hid (fun W => pow_any x e 2305843009213691579 W (by omega) (by omega) (by unfold I64; omega) he.1 (by omega))
  have P2 := Lib.hid (fun W => pow_any y e 2305843009213691579 W (by omega) (by omega) (by unfold I64; omega) he.1 (by omega))
  rw [show pm x e.toNat 2305843009213691579 = pP x e from rfl] at P1
  rw [show pm y e.toNat 2305843009213691579 = pP y e from rfl] at P2
  have hk := scalE_range wNonce [e, x, y]
  rw [show scalE wNonce [e, x, y] = provK e x y from rfl] at hk
  have VM := verE_made m1 m2 he.1 hk.1
  have rc : 0 ≤ provC e x y (provK e x y) ∧ provC e x y (provK e x y) < 1152921504606845789 := scalE_range _ _
  have rz : 0 ≤ provZ e x y (provK e x y) ∧ provZ e x y (provK e x y) < 1152921504606845789 := by unfold provZ; omega
  have ra := pP_range x e
  have rb := pP_range y e
  have ma := pP_mem m1 he.1
  have mb := pP_mem m2 he.1
  generalize provC e x y (provK e x y) = c at *
  generalize provZ e x y (provK e x y) = z at *
  generalize pP x e = a at *
  generalize pP y e = b at *
  have ix : I64 x := by unfold I64; omega
  have iy : I64 y := by unfold I64; omega
  have ia := i64_of ra (by omega)
  have ib := i64_of rb (by omega)
  have ic := i64_of rc (by omega)
  have iz := i64_of rz (by omega)
  have V0 := Lib.hid (fun W (o : Only (fun _ => False) w W) => everify_any x a y b c z W (ht.only o) ix ia iy ib ic iz)
  rw [VM] at V0
  have V1 := Lib.hid (fun W (o : Only (fun _ => False) w W) => everify_any x a y b (c - 1152921504606845789) (z) W (ht.only o) ix ia iy ib (by unfold I64; omega) (by unfold I64; omega))
  rw [verE_low (by omega)] at V1
  have V2 := Lib.hid (fun W (o : Only (fun _ => False) w W) => everify_any x (2305843009213691579 - a) y b c z W (ht.only o) ix (by unfold I64; omega) iy ib ic iz)
  rw [verE_out (.inr (.inl (mem_neg ma)))] at V2
  have V3 := Lib.hid (fun W (o : Only (fun _ => False) w W) => everify_any x a y (2305843009213691579 - b) c z W (ht.only o) ix ia iy (by unfold I64; omega) ic iz)
  rw [verE_out (.inr (.inr (.inr (mem_neg mb))))] at V3
  have V4 := Lib.hid (fun W (o : Only (fun _ => False) w W) => everify_any (2305843009213691579 - x) a y b c z W (ht.only o) (by unfold I64; omega) ia iy ib ic iz)
  rw [verE_out (.inl (mem_neg m1))] at V4
  have V5 := Lib.hid (fun W (o : Only (fun _ => False) w W) => everify_any x a 0 b c z W (ht.only o) ix ia (by unfold I64; omega) ib ic iz)
  rw [verE_out (.inr (.inr (.inl mem_zero)))] at V5
  have V6 := Lib.hid (fun W (o : Only (fun _ => False) w W) => everify_any x (a + 2305843009213691579) y b c z W (ht.only o) ix (by unfold I64; omega) iy ib ic iz)
  rw [verE_out (.inr (.inl (mem_high (by omega))))] at V6
  have vi0 : IntKind.i64.wrap (c + 1152921504606845789) = c + 1152921504606845789 := IntWalk.i64_in _ (by omega)
  have vw0 : wrap64 (c + 1152921504606845789) = c + 1152921504606845789 := by unfold wrap64; omega
  have vi1 : IntKind.i64.wrap (z + 1152921504606845789) = z + 1152921504606845789 := IntWalk.i64_in _ (by omega)
  have vw1 : wrap64 (z + 1152921504606845789) = z + 1152921504606845789 := by unfold wrap64; omega
  have vi2 : IntKind.i64.wrap (c - 1152921504606845789) = c - 1152921504606845789 := IntWalk.i64_in _ (by omega)
  have vw2 : wrap64 (c - 1152921504606845789) = c - 1152921504606845789 := by unfold wrap64; omega
  have vi3 : IntKind.i64.wrap (z - 1152921504606845789) = z - 1152921504606845789 := IntWalk.i64_in _ (by omega)
  have vw3 : wrap64 (z - 1152921504606845789) = z - 1152921504606845789 := by unfold wrap64; omega
  have vi4 : IntKind.i64.wrap (2305843009213691579 - a) = 2305843009213691579 - a := IntWalk.i64_in _ (by omega)
  have vw4 : wrap64 (2305843009213691579 - a) = 2305843009213691579 - a := by unfold wrap64; omega
  have vi5 : IntKind.i64.wrap (2305843009213691579 - b) = 2305843009213691579 - b := IntWalk.i64_in _ (by omega)
  have vw5 : wrap64 (2305843009213691579 - b) = 2305843009213691579 - b := by unfold wrap64; omega
  have vi6 : IntKind.i64.wrap (2305843009213691579 - x) = 2305843009213691579 - x := IntWalk.i64_in _ (by omega)
  have vw6 : wrap64 (2305843009213691579 - x) = 2305843009213691579 - x := by unfold wrap64; omega
  have vi7 : IntKind.i64.wrap (a + 2305843009213691579) = a + 2305843009213691579 := IntWalk.i64_in _ (by omega)
  have vw7 : wrap64 (a + 2305843009213691579) = a + 2305843009213691579 := by unfold wrap64; omega
  clear ht hm hs h0 h1 m1 m2 r1 r2 he hk VM rc rz ra rb ma mb ix iy ia ib ic iz
  skip
  go_enter Tryd.func17, Tryd.ntmps17
  go_wp2_with fail
  refine SA.out.mono ?_
  rintro e' w1 ⟨rfl, oo⟩
  replace O := Lib.hid (O.out.trans oo (fun _ _ h => h))
  replace B := Lib.hid (B.out.only oo (fun h => h))
  clear oo SA
  obtain ⟨X, F, FM⟩ := fam w1
  have NE := FM.ne
  have d0 := FM.cell (B.out.cell (i := 0) rfl)
  have d1 := FM.cell (B.out.cell (i := 1) rfl)
  go_wp2_with fail
  refine FM.region (by kernel_rfl) (by kernel_rfl) ?_
  repeat (first | go_big_quiet_step ((first | (go_at_call 51; with_reducible exact FM.call_same (E1.out _)) | (go_at_call 51; with_reducible exact FM.call_same (E2.out _)))) | quiet_step (fail))
  refine wpQuiet_nil ?_
  intro x1
  clear d0 d1
  replace O := Lib.hid (O.out.trans (FM.own x1) (fun _ _ h => h))
  generalize F x1 = w2 at O ⊢
  clear FM NE B
  go_wp2_with fail
  refine (AD.out _).mono ?_
  rintro e ws7 ⟨rfl, rfl⟩
  go_wp2_with fail
  refine (P1.out _).mono ?_
  rintro e wc8 ⟨rfl, oo⟩
  replace O := Lib.hid (O.out.trans oo (fun _ _ h => h))
  clear oo
  go_wp2_with fail
  refine (P2.out _).mono ?_
  rintro e wc9 ⟨rfl, oo⟩
  replace O := Lib.hid (O.out.trans oo (fun _ _ h => h))
  clear oo
  go_wp2_with fail
  refine (PR.out _ O.out).mono ?_
  rintro e' w5 ⟨rfl, oo⟩
  replace O := Lib.hid (O.out.trans oo (fun _ _ h => h))
  clear oo
  go_wp2_with fail
  obtain ⟨A, T, OL⟩ := at13 w5 75 [.int .i64 c, .int .i64 z] [.int .i64 (c - 1152921504606845789), .int .i64 (z)] (.cells #[.int .i64 (c + 1152921504606845789), .int .i64 z, .int .i64 c, .int .i64 (z + 1152921504606845789), .int .i64 (c - 1152921504606845789), .int .i64 z, .int .i64 c, .int .i64 (z - 1152921504606845789)] 75)
  replace O := Lib.hid (O.out.trans OL (fun _ _ h => h))
  replace A := Lib.hid A
  replace T := Lib.hid T
  clear OL
  refine (V0.out _ O.out).mono ?_
  rintro e' wv0 ⟨rfl, oo⟩
  replace O := Lib.hid (O.out.trans oo (fun _ _ h => h))
  replace A := Lib.hid (A.out.only oo (fun h => h))
  replace T := Lib.hid (T.out.only oo (fun h => h))
  clear oo
  have t0 := T.out.cell (i := 0) rfl
  have t1 := T.out.cell (i := 1) rfl
  clear V0
  go_wp2_with fail
  refine (V1.out _ O.out).mono ?_
  rintro e' wv1 ⟨rfl, oo⟩
  replace O := Lib.hid (O.out.trans oo (fun _ _ h => h))
  replace A := Lib.hid (A.out.only oo (fun h => h))
  clear oo t0 t1 T
  have k0 := A.out.cell (i := 0) rfl
  have k1 := A.out.cell (i := 1) rfl
  clear V1
  go_wp2_with fail
  refine (V2.out _ O.out).mono ?_
  rintro e' wv2 ⟨rfl, oo⟩
  replace O := Lib.hid (O.out.trans oo (fun _ _ h => h))
  replace A := Lib.hid (A.out.only oo (fun h => h))
  clear oo k0 k1
  have k0 := A.out.cell (i := 0) rfl
  have k1 := A.out.cell (i := 1) rfl
  clear V2
  go_wp2_with fail
  refine (V3.out _ O.out).mono ?_
  rintro e' wv3 ⟨rfl, oo⟩
  replace O := Lib.hid (O.out.trans oo (fun _ _ h => h))
  replace A := Lib.hid (A.out.only oo (fun h => h))
  clear oo k0 k1
  have k0 := A.out.cell (i := 0) rfl
  have k1 := A.out.cell (i := 1) rfl
  clear V3
  go_wp2_with fail
  refine (V4.out _ O.out).mono ?_
  rintro e' wv4 ⟨rfl, oo⟩
  replace O := Lib.hid (O.out.trans oo (fun _ _ h => h))
  replace A := Lib.hid (A.out.only oo (fun h => h))
  clear oo k0 k1
  have k0 := A.out.cell (i := 0) rfl
  have k1 := A.out.cell (i := 1) rfl
  clear V4
  go_wp2_with fail
  refine (V5.out _ O.out).mono ?_
  rintro e' wv5 ⟨rfl, oo⟩
  replace O := Lib.hid (O.out.trans oo (fun _ _ h => h))
  replace A := Lib.hid (A.out.only oo (fun h => h))
  clear oo k0 k1
  have k0 := A.out.cell (i := 0) rfl
  have k1 := A.out.cell (i := 1) rfl
  clear V5
  go_wp2_with fail
  refine (V6.out _ O.out).mono ?_
  rintro e' wv6 ⟨rfl, oo⟩
  replace O := Lib.hid (O.out.trans oo (fun _ _ h => h))
  replace A := Lib.hid (A.out.only oo (fun h => h))
  clear oo k0 k1
  have k0 := A.out.cell (i := 0) rfl
  have k1 := A.out.cell (i := 1) rfl
  clear V6
  go_wp2_with fail
  go_ret
  exact ⟨rfl, O.out⟩
set_option maxRecDepth 100000 in
set_option maxHeartbeats 2000000 in
theorem equalRange_3 (secret q0 q1 n : Int) (w : World) (ht : Tab w) (hm : MaxL w) (hs : I64 secret) (h0 : I64 q0) (h1 : I64 q1) (n0 : 0 ≤ n) (n1 : n ≤ 255) (hn : n % 4 = 3) :
    Calls Tryd.prog 17 #[.int .i64 secret, .agg #[.int .i64 q0, .int .i64 q1], .int .u8 n] w fun e w' => e = .returned (.bool true) ∧ Only (fun _ => False) w w' := by
  have SA := Lib.hid (sanity6 (w.alloc (.cells [.int .i64 q0, .int .i64 q1].toArray 86)) (ht.only ((Only.refl _ w).alloc _)) (hm.only ((Only.refl _ w).alloc _)))
  have B := Lib.hid (At.new w 86 [.int .i64 q0, .int .i64 q1])
  have O := Lib.hid ((Only.refl (fun _ => False) w).alloc (.cells [.int .i64 q0, .int .i64 q1].toArray 86))
  have E1 := Lib.hid (fun W => relem6_any q0 W h0)
  have E2 := Lib.hid (fun W => relem6_any q1 W h1)
  have m1 := elemE_mem q0
  have m2 := elemE_mem q1
  generalize elemE q0 = x at *
  generalize elemE q1 = y at *
  have r1 := memB_range m1
  have r2 := memB_range m2
  have AD := Lib.hid (fun W => add_any secret 0 1152921504606845789 W (by omega) (by omega) hs (by unfold I64; omega))
  rw [Int.add_zero] at AD
  have PR := Lib.hid (fun W (o : Only (fun _ => False) w W) => eprove_any secret x y W (ht.only o) hs m1 m2)
  have he : 0 ≤ secret % 1152921504606845789 ∧ secret % 1152921504606845789 < 1152921504606845789 := by omega
  generalize secret % 1152921504606845789 = e at *
  have P1 := Lib.hid (fun W => pow_any x e 2305843009213691579 W (by omega) (by omega) (by unfold I64; omega) he.1 (by omega))
  have P2 := Lib.hid (fun W => pow_any y e 2305843009213691579 W (by omega) (by omega) (by unfold I64; omega) he.1 (by omega))
  rw [show pm x e.toNat 2305843009213691579 = pP x e from rfl] at P1
  rw [show pm y e.toNat 2305843009213691579 = pP y e from rfl] at P2
  have hk := scalE_range wNonce [e, x, y]
  rw [show scalE wNonce [e, x, y] = provK e x y from rfl] at hk
  have VM := verE_made m1 m2 he.1 hk.1
  have rc : 0 ≤ provC e x y (provK e x y) ∧ provC e x y (provK e x y) < 1152921504606845789 := scalE_range _ _
  have rz : 0 ≤ provZ e x y (provK e x y) ∧ provZ e x y (provK e x y) < 1152921504606845789 := by unfold provZ; omega
  have ra := pP_range x e
  have rb := pP_range y e
  have ma := pP_mem m1 he.1
  have mb := pP_mem m2 he.1
  generalize provC e x y (provK e x y) = c at *
  generalize provZ e x y (provK e x y) = z at *
  generalize pP x e = a at *
  generalize pP y e = b at *
  have ix : I64 x := by unfold I64; omega
  have iy : I64 y := by unfold I64; omega
  have ia := i64_of ra (by omega)
  have ib := i64_of rb (by omega)
  have ic := i64_of rc (by omega)
  have iz := i64_of rz (by omega)
  have V0 := Lib.hid (fun W (o : Only (fun _ => False) w W) => everify_any x a y b c z W (ht.only o) ix ia iy ib ic iz)
  rw [VM] at V0
  have V1 := Lib.hid (fun W (o : Only (fun _ => False) w W) => everify_any x a y b (c) (z - 1152921504606845789) W (ht.only o) ix ia iy ib (by unfold I64; omega) (by unfold I64; omega))
  rw [verE_lowz (by omega)] at V1
  have V2 := Lib.hid (fun W (o : Only (fun _ => False) w W) => everify_any x (2305843009213691579 - a) y b c z W (ht.only o) ix (by unfold I64; omega) iy ib ic iz)
  rw [verE_out (.inr (.inl (mem_neg ma)))] at V2
  have V3 := Lib.hid (fun W (o : Only (fun _ => False) w W) => everify_any x a y (2305843009213691579 - b) c z W (ht.only o) ix ia iy (by unfold I64; omega) ic iz)
  rw [verE_out (.inr (.inr (.inr (mem_neg mb))))] at V3
  have V4 := Lib.hid (fun W (o : Only (fun _ => False) w W) => everify_any (2305843009213691579 - x) a y b c z W (ht.only o) (by unfold I64; omega) ia iy ib ic iz)
  rw [verE_out (.inl (mem_neg m1))] at V4
  have V5 := Lib.hid (fun W (o : Only (fun _ => False) w W) => everify_any x a 0 b c z W (ht.only o) ix ia (by unfold I64; omega) ib ic iz)
  rw [verE_out (.inr (.inr (.inl mem_zero)))] at V5
  have V6 := Lib.hid (fun W (o : Only (fun _ => False) w W) => everify_any x (a + 2305843009213691579) y b c z W (ht.only o) ix (by unfold I64; omega) iy ib ic iz)
  rw [verE_out (.inr (.inl (mem_high (by omega))))] at V6
  have vi0 : IntKind.i64.wrap (c + 1152921504606845789) = c + 1152921504606845789 := IntWalk.i64_in _ (by omega)
  have vw0 : wrap64 (c + 1152921504606845789) = c + 1152921504606845789 := by unfold wrap64; omega
  have vi1 : IntKind.i64.wrap (z + 1152921504606845789) = z + 1152921504606845789 := IntWalk.i64_in _ (by omega)
  have vw1 : wrap64 (z + 1152921504606845789) = z + 1152921504606845789 := by unfold wrap64; omega
  have vi2 : IntKind.i64.wrap (c - 1152921504606845789) = c - 1152921504606845789 := IntWalk.i64_in _ (by omega)
  have vw2 : wrap64 (c - 1152921504606845789) = c - 1152921504606845789 := by unfold wrap64; omega
  have vi3 : IntKind.i64.wrap (z - 1152921504606845789) = z - 1152921504606845789 := IntWalk.i64_in _ (by omega)
  have vw3 : wrap64 (z - 1152921504606845789) = z - 1152921504606845789 := by unfold wrap64; omega
  have vi4 : IntKind.i64.wrap (2305843009213691579 - a) = 2305843009213691579 - a := IntWalk.i64_in _ (by omega)
  have vw4 : wrap64 (2305843009213691579 - a) = 2305843009213691579 - a := by unfold wrap64; omega
  have vi5 : IntKind.i64.wrap (2305843009213691579 - b) = 2305843009213691579 - b := IntWalk.i64_in _ (by omega)
  have vw5 : wrap64 (2305843009213691579 - b) = 2305843009213691579 - b := by unfold wrap64; omega
  have vi6 : IntKind.i64.wrap (2305843009213691579 - x) = 2305843009213691579 - x := IntWalk.i64_in _ (by omega)
  have vw6 : wrap64 (2305843009213691579 - x) = 2305843009213691579 - x := by unfold wrap64; omega
  have vi7 : IntKind.i64.wrap (a + 2305843009213691579) = a + 2305843009213691579 := IntWalk.i64_in _ (by omega)
  have vw7 : wrap64 (a + 2305843009213691579) = a + 2305843009213691579 := by unfold wrap64; omega
  clear ht hm hs h0 h1 m1 m2 r1 r2 he hk VM rc rz ra rb ma mb ix iy ia ib ic iz
  skip
  go_enter Tryd.func17, Tryd.ntmps17
  go_wp2_with fail
  refine SA.out.mono ?_
  rintro e' w1 ⟨rfl, oo⟩
  replace O := Lib.hid (O.out.trans oo (fun _ _ h => h))
  replace B := Lib.hid (B.out.only oo (fun h => h))
  clear oo SA
  obtain ⟨X, F, FM⟩ := fam w1
  have NE := FM.ne
  have d0 := FM.cell (B.out.cell (i := 0) rfl)
  have d1 := FM.cell (B.out.cell (i := 1) rfl)
  go_wp2_with fail
  refine FM.region (by kernel_rfl) (by kernel_rfl) ?_
  repeat (first | go_big_quiet_step ((first | (go_at_call 51; with_reducible exact FM.call_same (E1.out _)) | (go_at_call 51; with_reducible exact FM.call_same (E2.out _)))) | quiet_step (fail))
  refine wpQuiet_nil ?_
  intro x1
  clear d0 d1
  replace O := Lib.hid (O.out.trans (FM.own x1) (fun _ _ h => h))
  generalize F x1 = w2 at O ⊢
  clear FM NE B
  go_wp2_with fail
  refine (AD.out _).mono ?_
  rintro e ws10 ⟨rfl, rfl⟩
  go_wp2_with fail
  refine (P1.out _).mono ?_
  rintro e wc11 ⟨rfl, oo⟩
  replace O := Lib.hid (O.out.trans oo (fun _ _ h => h))
  clear oo
  go_wp2_with fail
  refine (P2.out _).mono ?_
  rintro e wc12 ⟨rfl, oo⟩
  replace O := Lib.hid (O.out.trans oo (fun _ _ h => h))
  clear oo
  go_wp2_with fail
  refine (PR.out _ O.out).mono ?_
  rintro e' w5 ⟨rfl, oo⟩
  replace O := Lib.hid (O.out.trans oo (fun _ _ h => h))
  clear oo
  go_wp2_with fail
  obtain ⟨A, T, OL⟩ := at13 w5 75 [.int .i64 c, .int .i64 z] [.int .i64 (c), .int .i64 (z - 1152921504606845789)] (.cells #[.int .i64 (c + 1152921504606845789), .int .i64 z, .int .i64 c, .int .i64 (z + 1152921504606845789), .int .i64 (c - 1152921504606845789), .int .i64 z, .int .i64 c, .int .i64 (z - 1152921504606845789)] 75)
  replace O := Lib.hid (O.out.trans OL (fun _ _ h => h))
  replace A := Lib.hid A
  replace T := Lib.hid T
  clear OL
  refine (V0.out _ O.out).mono ?_
  rintro e' wv0 ⟨rfl, oo⟩
  replace O := Lib.hid (O.out.trans oo (fun _ _ h => h))
  replace A := Lib.hid (A.out.only oo (fun h => h))
  replace T := Lib.hid (T.out.only oo (fun h => h))
  clear oo
  have t0 := T.out.cell (i := 0) rfl
  have t1 := T.out.cell (i := 1) rfl
  clear V0
  go_wp2_with fail
  refine (V1.out _ O.out).mono ?_
  rintro e' wv1 ⟨rfl, oo⟩
  replace O := Lib.hid (O.out.trans oo (fun _ _ h => h))
  replace A := Lib.hid (A.out.only oo (fun h => h))
  clear oo t0 t1 T
  have k0 := A.out.cell (i := 0) rfl
  have k1 := A.out.cell (i := 1) rfl
  clear V1
  go_wp2_with fail
  refine (V2.out _ O.out).mono ?_
  rintro e' wv2 ⟨rfl, oo⟩
  replace O := Lib.hid (O.out.trans oo (fun _ _ h => h))
  replace A := Lib.hid (A.out.only oo (fun h => h))
  clear oo k0 k1
  have k0 := A.out.cell (i := 0) rfl
  have k1 := A.out.cell (i := 1) rfl
  clear V2
  go_wp2_with fail
  refine (V3.out _ O.out).mono ?_
  rintro e' wv3 ⟨rfl, oo⟩
  replace O := Lib.hid (O.out.trans oo (fun _ _ h => h))
  replace A := Lib.hid (A.out.only oo (fun h => h))
  clear oo k0 k1
  have k0 := A.out.cell (i := 0) rfl
  have k1 := A.out.cell (i := 1) rfl
  clear V3
  go_wp2_with fail
  refine (V4.out _ O.out).mono ?_
  rintro e' wv4 ⟨rfl, oo⟩
  replace O := Lib.hid (O.out.trans oo (fun _ _ h => h))
  replace A := Lib.hid (A.out.only oo (fun h => h))
  clear oo k0 k1
  have k0 := A.out.cell (i := 0) rfl
  have k1 := A.out.cell (i := 1) rfl
  clear V4
  go_wp2_with fail
  refine (V5.out _ O.out).mono ?_
  rintro e' wv5 ⟨rfl, oo⟩
  replace O := Lib.hid (O.out.trans oo (fun _ _ h => h))
  replace A := Lib.hid (A.out.only oo (fun h => h))
  clear oo k0 k1
  have k0 := A.out.cell (i := 0) rfl
  have k1 := A.out.cell (i := 1) rfl
  clear V5
  go_wp2_with fail
  refine (V6.out _ O.out).mono ?_
  rintro e' wv6 ⟨rfl, oo⟩
  replace O := Lib.hid (O.out.trans oo (fun _ _ h => h))
  replace A := Lib.hid (A.out.only oo (fun h => h))
  clear oo k0 k1
  have k0 := A.out.cell (i := 0) rfl
  have k1 := A.out.cell (i := 1) rfl
  clear V6
  go_wp2_with fail
  go_ret
  exact ⟨rfl, O.out⟩
end Go.Proofs.YtjmdfipofgmakaaDoor

namespace Go.Proofs.YtjmdfipofgmakaaDoor
open Go.ChangeShapes Go.WideShapes Go.ChangeAt Go.RowKit
set_option linter.unusedVariables false
set_option linter.unusedSimpArgs false

theorem u8_arg {W : World} {n : Int} {c : List Value} {v : Value} (h : Holds W (.int .u8) n c) (hv : IsV (.int .u8) c v) : v = .int .u8 n ∧ 0 ≤ n ∧ n ≤ 255 := by
  obtain ⟨h1, h2⟩ := h
  simp only [IsV] at hv
  rw [h1] at hv
  injection hv with e
  have : 0 ≤ n ∧ n ≤ 255 := by simpa [Lit.wf, IntKind.min, IntKind.max, IntKind.signed, IntKind.bits] using h2
  exact ⟨e.symm, this⟩
theorem equalRange_any (secret q0 q1 n : Int) (w : World) (ht : Tab w) (hm : MaxL w) (hs : I64 secret) (h0 : I64 q0) (h1 : I64 q1) (n0 : 0 ≤ n) (n1 : n ≤ 255) :
    Calls Tryd.prog 17 #[.int .i64 secret, .agg #[.int .i64 q0, .int .i64 q1], .int .u8 n] w fun e w' => e = .returned (.bool true) ∧ Only (fun _ => False) w w' := by
  have hn : n % 4 = 0 ∨ n % 4 = 1 ∨ n % 4 = 2 ∨ n % 4 = 3 := by omega
  rcases hn with hn | hn | hn | hn
  · exact equalRange_0 secret q0 q1 n w ht hm hs h0 h1 n0 n1 hn
  · exact equalRange_1 secret q0 q1 n w ht hm hs h0 h1 n0 n1 hn
  · exact equalRange_2 secret q0 q1 n w ht hm hs h0 h1 n0 n1 hn
  · exact equalRange_3 secret q0 q1 n w ht hm hs h0 h1 n0 n1 hn
theorem equalRange_walk (W : World) (vals : Ty.Vals [.int .i64, .arr 2 (.int .i64), .int .u8]) (args : List Value) (h : ArgsHold W [.int .i64, .arr 2 (.int .i64), .int .u8] vals args) (hs : SmallAll [.int .i64, .arr 2 (.int .i64), .int .u8] vals) (hL : laidMetH Tryd.prog Rows.equalRangeRow.laid W) (hO : W.ShapedOpen Tryd.prog) :
    Calls Tryd.prog 17 args.toArray W fun e W' => e = .returned (.bool true) ∧ Below W.heap.size W W' := by
  obtain ⟨x, q, n, _⟩ := vals
  obtain ⟨c0, v0, r0, rfl, h0, i0, c1, v1, r1, rfl, h1, i1, c2, v2, r2, rfl, h2, i2, rfl⟩ := h
  obtain ⟨rfl, k0⟩ := int_arg h0 i0
  obtain ⟨rfl, hq, kq⟩ := arr_ints h1 i1
  obtain ⟨rfl, n0, n1⟩ := u8_arg h2 i2
  have hq' : List.length (α := Int) q = 2 := hq
  match q, hq', kq with
  | [a, b], _, kq =>
    refine (equalRange_any x a b n W (tab_of hL) (maxL_of hO) k0 (kq a (.head _)) (kq b (.tail _ (.head _))) n0 n1).mono ?_
    rintro e w' ⟨h1, o⟩
    exact ⟨h1, o.below (fun _ h => h.elim) (Nat.le_refl _)⟩
theorem equalRange_reads (os : Os) {H : Type} (enc : TypeId × Value → H) : ∃ places, DataW.whole enc Tryd.prog ((laidWorld os).forCall (fun _ _ => 0) ⟨#[], #[.int .i64 0, .agg #[.int .i64 0, .int .i64 0], .int .u8 0], []⟩).memory Tryd.f17.params.toList Rows.equalRangeSpec.vars false (#[.int .i64 0, .agg #[.int .i64 0, .int .i64 0], .int .u8 0] : Array Value).toList 8 = some ([.lit (.int .i64 0), .agg [.lit (.int .i64 0), .lit (.int .i64 0)], .lit (.int .u8 0)], [], places) :=
  ⟨[], by kernel_rfl⟩
set_option maxRecDepth 100000 in
theorem equalRange_lifted (os : Os) (started : os.Started) (H : Type) (enc : TypeId × Value → H) (F : Stop.Interp) :
    ReturnsInHanded {} Tryd.checked os 17 .any ((OpenSpec.ofChange Rows.equalRangeSpec).preRow enc Tryd.prog Tryd.f17 Rows.equalRangeRow.domain false Rows.equalRangeRow.laid) (((OpenSpec.ofChange Rows.equalRangeSpec).at F).post enc Tryd.prog Tryd.f17 false true false false) := by
  obtain ⟨places, hx⟩ := equalRange_reads os enc
  refine row_lifted 17 Tryd.f17 Rows.equalRangeSpec Rows.equalRangeRow.domain Rows.equalRangeRow.laid [.int .i64, .arr 2 (.int .i64), .int .u8] 4 os started H enc F Tryd.func17 (by kernel_rfl) rfl rfl (by kernel_rfl) Tryd.underlying4 (by kernel_rfl) (by kernel_rfl) ?_
    (witness_row_at (enc := enc) (C := Tryd.checked) false (laidWorld os) #[.int .i64 0, .agg #[.int .i64 0, .int .i64 0], .int .u8 0] rfl (by kernel_rfl) (by kernel_rfl) (by kernel_rfl)
      (OpenSpec.preRow_of_cond 8 hx (by kernel_rfl) (fun k hk => by cases hk) (by kernel_rfl) (laid_met5 os _))) equalRange_walk
  intro ds hd
  match ds, hd with
  | [d1, d2, d3], _ => rfl
theorem equalRange_said : Rows.EqualRangeSaid :=
  OpenClaim.holds_of_cond 17 Tryd.f17 rfl rfl rfl rfl rfl rfl rfl ⟨rfl, rfl, rfl, rfl, rfl⟩ rfl rfl rfl rfl rfl (by kernel_rfl) Tryd.func17 (by kernel_rfl)
    (of_decide_eq_true (by kernel_rfl)) (by unfold Func.isWrapper; first | (rw [if_pos (by decide +kernel)]; kernel_rfl) | (rw [if_neg (by decide +kernel)]; exact ⟨rfl, rfl⟩))
    (fun os started H enc _ F => by rw [OpenClaim.pre_eq_preRow]; exact equalRange_lifted os started H enc F)
theorem equalRange_plain (f : FuncId) (fn : Func) (hf : Tryd.pinned.checked.prog.funcNamed "sortes/sorteslaw06.EqualRange" = some f) (hfn : Tryd.pinned.checked.prog.funcs[f]? = some fn) :
    true = Tryd.pinned.checked.prog.looks [] ∧ ∀ (j : Nat) t, fn.params[j]? = some t → Tryd.pinned.checked.prog.wantsStandIn t = false := by
  obtain rfl : f = 17 := Option.some.inj ((show Tryd.prog.funcNamed "sortes/sorteslaw06.EqualRange" = some 17 by kernel_rfl).symm.trans hf) |>.symm
  obtain rfl : fn = Tryd.f17 := (Option.some.inj (Tryd.func17.symm.trans hfn)).symm
  refine ⟨by kernel_rfl, fun j t ht => ?_⟩
  have hall : Tryd.f17.params.toList.all (fun t => Tryd.prog.wantsStandIn t == false) = true := by kernel_rfl
  have := List.all_eq_true.1 hall t (by simpa using Array.mem_of_getElem? ht)
  exact eq_of_beq this
theorem equalRange_holds : Rows.EqualRangeCardSaid :=
  Claim7.holds_tied_plain_at .later [] _ _ _ _ equalRange_said (fun _ h => by cases h) (by kernel_rfl) (fun _ h => by cases h) equalRange_row_tie rfl ⟨rfl, rfl⟩ (by kernel_rfl) rfl equalRange_plain (by kernel_rfl)
end Go.Proofs.YtjmdfipofgmakaaDoor
