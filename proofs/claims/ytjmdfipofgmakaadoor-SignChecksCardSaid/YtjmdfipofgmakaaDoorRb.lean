/-
  sortesref03.block: contract.
-/
import Derived.Test.YtjmdfipofgmakaaDoorSk
import Derived.Test.YtjmdfipofgmakaaDoorRa
import Derived.Test.YtjmdfipofgmakaaDoorQt
namespace Go.Proofs.YtjmdfipofgmakaaDoor
open Go.RowKit
set_option linter.unusedVariables false
set_option linter.unusedSimpArgs false

theorem infoS8 (s : S8) : (Tryd.prog.info? 140).map (·.size) = some (u32s s.l).length := by kernel_rfl
def z8u : List Value := List.replicate 8 (Value.int .u32 0)
/-- the worlds of a round -/
structure Rb (w W : World) (s : S8) (K : Nat) (B : List UInt8) (i : Nat) : Prop where
  own : Only (fun _ => False) w W
  st : At W w.heap.size 140 (u32s s.l)
  out : At W (w.heap.size + 1) 140 z8u
  kk : At W K 165 (u32s kTab)
  ww : At W (K + 1) 165 (u32s (schedZ B i))
  lt : w.heap.size + 1 < K
theorem Rb.keep {w W W' : World} {s : S8} {K : Nat} {B : List UInt8} {i : Nat} (h : Rb w W s K B i) (o : Only (fun _ => False) W W') : Rb w W' s K B i :=
  ⟨h.own.trans o (fun _ _ h => h), h.st.only o (fun h => h), h.out.only o (fun h => h), h.kk.only o (fun h => h), h.ww.only o (fun h => h), h.lt⟩
theorem Rb.word {w W : World} {s : S8} {K : Nat} {B : List UInt8} {i : Nat} (h : Rb w W s K B i) (hi : i < 64) (v : Int) (hv : v = if i < 16 then be32 B i else nextW (sched B i) i) : Rb w (W.setCell ⟨K + 1, i, none⟩ (.int .u32 v)) s K B (i + 1) := by
  have hl := h.lt
  have hz := h.own.size
  refine ⟨h.own.put (p := ⟨K + 1, i, none⟩) (fun hlt => by have : K + 1 < w.heap.size := hlt; omega) _, h.st.far (p := ⟨K + 1, i, none⟩) (by dsimp only; omega) _, h.out.far (p := ⟨K + 1, i, none⟩) (by dsimp only; omega) _, h.kk.far (p := ⟨K + 1, i, none⟩) (by dsimp only; omega) _, ?_, hl⟩
  rw [← schedZ_set B i hi v hv]
  exact h.ww.put i _
theorem Rb.far8 {w W W1 W2 : World} {s : S8} {K : Nat} {B : List UInt8} {i : Nat} (h : Rb w W s K B i) (h1 : Rb w W1 s K B i) (o : Only (· = W.heap.size) W1 W2) : Rb w W2 s K B i := by
  have l1 := h.st.lt
  have l2 := h.out.lt
  have l3 := h.kk.lt
  have l4 := h.ww.lt
  exact ⟨h1.own.trans (o.mono (T := fun i => w.heap.size ≤ i) (fun i _ e => by omega)) (fun i hi e => by omega), h1.st.only o (by omega), h1.out.only o (by omega), h1.kk.only o (by omega), h1.ww.only o (by omega), h.lt⟩
theorem Rb.put8 {w W W2 : World} {s : S8} {K V : Nat} {B : List UInt8} {i : Nat} (h : Rb w W s K B i) (o : Only (· = V) W W2) (hV : K + 1 < V) : Rb w W2 s K B i := by
  have l := h.lt
  exact ⟨h.own.trans (o.mono (T := fun i => w.heap.size ≤ i) (fun i _ e => by omega)) (fun i hi e => by omega), h.st.only o (by omega), h.out.only o (by omega), h.kk.only o (by omega), h.ww.only o (by omega), h.lt⟩
theorem mod_a (T U : Int) : (T % 4294967296 + U) % 4294967296 = (T + U) % 4294967296 := by omega
theorem mod_d (d T : Int) : (d + T % 4294967296) % 4294967296 = (d + T) % 4294967296 := by omega
/-- the worlds of the last loop -/
structure Fin8 (w W : World) (V : Nat) (st : List Int) (vs : List Value) : Prop where
  own : Only (fun _ => False) w W
  st : At W w.heap.size 140 (u32s st)
  out : At W (w.heap.size + 1) 140 z8u
  v : At W V 140 vs
  lt : w.heap.size + 1 < V
theorem Fin8.put {w W : World} {V : Nat} {st st' : List Int} {vs : List Value} (h : Fin8 w W V st vs) (i : Nat) (u : Value) (he : (u32s st).set i u = u32s st') : Fin8 w (W.setCell ⟨w.heap.size, i, none⟩ u) V st' vs := by
  have l := h.lt
  have z := h.own.size
  exact ⟨h.own.put (p := ⟨w.heap.size, i, none⟩) (fun hh => absurd hh (Nat.lt_irrefl _)) _, by rw [← he]; exact h.st.put i u, h.out.far (p := ⟨w.heap.size, i, none⟩) (by dsimp only; omega) _, h.v.far (p := ⟨w.heap.size, i, none⟩) (by dsimp only; omega) _, l⟩
theorem Fin8.drew {w W : World} {V : Nat} {st : List Int} {vs : List Value} (h : Fin8 w W V st vs) : Fin8 w W.drew V st vs := ⟨h.own.drew, h.st.drew, h.out.drew, h.v.drew, h.lt⟩
theorem be_bytes (b : ByteArray) (i : Nat) (h : 4 * i + 3 < b.size) : bits BinOp.or IntKind.u32 (bits BinOp.or IntKind.u32 (bits BinOp.or IntKind.u32 ((b[4 * i]'(by omega)).toNat % 4294967296 * 16777216 % 4294967296 : Int) ((b[4 * i + 1]'(by omega)).toNat % 4294967296 * 65536 % 4294967296 : Int))
    ((b[4 * i + 2]'(by omega)).toNat % 4294967296 * 256 % 4294967296 : Int)) ((b[4 * i + 3]'h).toNat % 4294967296 : Int) = be32 b.data.toList i := by
  have e : ∀ (k : Nat) (hk : k < b.size), b.data.toList.getD k 0 = b[k] := fun k hk => by
    have : k < b.data.toList.length := by simpa using hk
    rw [List.getD_eq_getElem?_getD, List.getElem?_eq_getElem this]
    rfl
  unfold be32 be4
  rw [e _ (by omega), e _ (by omega), e _ (by omega), e _ h]
  have l0 := u8_le (b[4 * i]'(by omega))
  have l1 := u8_le (b[4 * i + 1]'(by omega))
  have l2 := u8_le (b[4 * i + 2]'(by omega))
  have l3 := u8_le (b[4 * i + 3]'h)
  unfold bo
  congr 1
  · congr 1
    · congr 1 <;> omega
    · omega
  · omega
set_option maxRecDepth 100000 in
set_option maxHeartbeats 2000000 in
theorem rblock_any (s : S8) (b : ByteArray) (w : World) (hB : b.size = 64) :
    Calls Tryd.prog 127 #[.agg (u32s s.l).toArray, .string b] w fun e w' => e = .returned (.agg (u32s (addB s b.data.toList).l).toArray) ∧ Only (fun _ => False) w w' := by
  have HB := Lib.hid hB
  have H2 := Lib.hid (u32s_one kTab)
  clear hB
  go_enter Tryd.func127, Tryd.ntmps127
  go_wp2_with fail
  have a0 := At.new w 140 (u32s s.l)
  have o0 := (Only.refl (fun _ => False) w).alloc (.cells (u32s s.l).toArray 140)
  have s0 : (w.alloc (.cells (u32s s.l).toArray 140)).heap.size = w.heap.size + 1 := by simp
  have a1 := At.new (w.alloc (.cells (u32s s.l).toArray 140)) 140 z8u
  have o1 := (Only.refl (fun _ => False) (w.alloc (.cells (u32s s.l).toArray 140))).alloc (.cells z8u.toArray 140)
  rw [s0] at a1
  have A0 := Lib.hid (a0.only o1 (fun h => h))
  have A1 := Lib.hid a1
  have O1 := Lib.hid (o0.trans o1 (fun _ _ h => h))
  clear a0 o0 s0 a1 o1
  refine (rrounds_any _).mono ?_
  rintro e w2 ⟨rfl, o2⟩
  have A2 := Lib.hid (A0.out.only o2 (fun h => h))
  have B2 := Lib.hid (A1.out.only o2 (fun h => h))
  have O2 := Lib.hid (O1.out.trans o2 (fun _ _ h => h))
  clear o2 A0 A1 O1
  go_wp2_with (first | (with_reducible refine wpl_alloc_all (o := ⟨some 5, _, _, _, _, _⟩) rfl _ rfl _ (zero64 _) ?_; intro w3 h3 o3 s3; have S3 := Lib.hid s3; have H3 := Lib.hid h3; have O3 := Lib.hid o3; clear s3 h3 o3) |
    (refine wpl_store_all rfl 165 (.tmp 5) (.tmp 17) rfl w2.heap.size 165 zeros (u32s kTab) rfl rfl H3.out lenK infoK H2.out ?_; intro w4 h4 o4 s4; have S4 := Lib.hid s4; have H4 := Lib.hid h4; have O4 := Lib.hid o4; clear s4 h4 o4) |
    (with_reducible refine wpl_alloc_all (o := ⟨some 6, _, _, _, _, _⟩) rfl _ rfl _ (zero64 _) ?_; intro w5 h5 o5 s5; have S5 := Lib.hid s5; have H5 := Lib.hid h5; have O5 := Lib.hid o5; clear s5 h5 o5))
  have RB : Hid (Rb w w5 s w2.heap.size b.data.toList 0) := by
    have l2 := B2.out.lt
    have z2 := O2.out.size
    have e3 : w3.heap.size = w2.heap.size + 1 := S3.out
    have e4 : w4.heap.size = w3.heap.size := S4.out
    have q3 : Only (fun i => w2.heap.size ≤ i) w2 w4 := (O3.out.mono (fun _ _ h => h.elim)).trans (O4.out.mono (T := fun i => w2.heap.size ≤ i) (fun i _ h => by omega)) (fun _ _ h => h)
    have q5 : Only (fun i => w2.heap.size ≤ i) w2 w5 := q3.trans (O5.out.mono (T := fun _ => False) (fun _ _ h => h)) (fun _ _ h => h.elim)
    refine ⟨O2.out.trans q5 (fun i hi h => by omega), A2.out.only q5 (by omega), B2.out.only q5 (by omega), H4.out.only O5.out (fun h => h), ?_, by omega⟩
    have := H5.out
    rw [e4, e3] at this
    rw [schedZ_zero]
    exact this
  have e4 : w4.heap.size = w2.heap.size + 1 := by have := S3.out; have := S4.out; omega
  rw [e4]
  clear e4 A2 B2 O2 S3 H3 O3 S4 H4 O4 H5 O5 S5
  generalize w2.heap.size = K at RB ⊢
  go_loopw [7] (fun iv wr => ∃ i : Nat, i ≤ 64 ∧ iv = .int .i64 i ∧ Hid (Rb w wr s K b.data.toList i)) (fun iv _ => 64 - (intOf iv).toNat)
  case atStart => exact ⟨0, by omega, rfl, RB⟩
  case round =>
    clear RB
    obtain ⟨i, hi, rfl, RB⟩ := hrel
    by_cases hlt : i < 64
    · obtain ⟨X, F, FM⟩ := fam wr
      have NE := FM.ne
      have j5 : (i : Int) < 64 := by omega
      by_cases h16 : i < 16
      · have hbz : 4 * i + 3 < b.size := by have := HB.out; omega
        have i1 : (4 : Int) * (i : Int) < (b.size : Int) := by omega
        have i2 : (4 : Int) * (i : Int) + 1 < (b.size : Int) := by omega
        have i3 : (4 : Int) * (i : Int) + 2 < (b.size : Int) := by omega
        have i4 : (4 : Int) * (i : Int) + 3 < (b.size : Int) := by omega
        have v1 : IntKind.i64.wrap (4 * (i : Int)) = 4 * (i : Int) := IntWalk.i64_in _ (by omega)
        have v2 : IntKind.i64.wrap (4 * (i : Int) + 1) = 4 * (i : Int) + 1 := IntWalk.i64_in _ (by omega)
        have v3 : IntKind.i64.wrap (4 * (i : Int) + 2) = 4 * (i : Int) + 2 := IntWalk.i64_in _ (by omega)
        have v4 : IntKind.i64.wrap (4 * (i : Int) + 3) = 4 * (i : Int) + 3 := IntWalk.i64_in _ (by omega)
        have n1 : (0 : Int) ≤ 4 * (i : Int) := by omega
        have n2 : (0 : Int) ≤ 4 * (i : Int) + 1 := by omega
        have n3 : (0 : Int) ≤ 4 * (i : Int) + 2 := by omega
        have n4 : (0 : Int) ≤ 4 * (i : Int) + 3 := by omega
        have t1 : (4 * (i : Int)).toNat = 4 * i := by omega
        have t2 : (4 * (i : Int) + 1).toNat = 4 * i + 1 := by omega
        have t3 : (4 * (i : Int) + 2).toNat = 4 * i + 2 := by omega
        have t4 : (4 * (i : Int) + 3).toNat = 4 * i + 3 := by omega
        have cz := FM.cell (RB.out.ww.cell (schedZ_cell b.data.toList i hlt))
        have fz := FM.frozen RB.out.ww i
        go_wp2_with fail
        refine FM.tail 31 (by kernel_rfl) (by kernel_rfl) ?_
        simp only [List.take_succ_cons, List.take_zero, List.drop_succ_cons, List.drop_zero]
        repeat (first | go_big_quiet_step (fail) | quiet_step (fail))
        refine wpQuiet_nil ?_
        intro x
        go_wp2_with fail
        have BE := Lib.hid (be_bytes b i hbz)
        have RX := Lib.hid (RB.out.keep (FM.own x))
        go_roundw
        case rel => exact ⟨i + 1, by omega, by go_num, Lib.hid (by rw [BE.out]; exact RX.out.word hlt (be32 b.data.toList i) (by rw [if_pos h16]))⟩
        case measure => simp [intOf]; omega
      · have c16 := FM.cell (RB.out.ww.cell (schedZ_get b.data.toList i (i - 16) hi (by omega)))
        have c15 := RB.out.ww.cell (schedZ_get b.data.toList i (i - 15) hi (by omega))
        have c7 := FM.cell (RB.out.ww.cell (schedZ_get b.data.toList i (i - 7) hi (by omega)))
        have c2 := RB.out.ww.cell (schedZ_get b.data.toList i (i - 2) hi (by omega))
        have cz := FM.cell (RB.out.ww.cell (schedZ_cell b.data.toList i hlt))
        have fz := FM.frozen RB.out.ww i
        have NW := Lib.hid (show nextW (sched b.data.toList i) i = wr32 ((sched b.data.toList i).getD (i - 16) 0) ((sched b.data.toList i).getD (i - 15) 0) ((sched b.data.toList i).getD (i - 7) 0) ((sched b.data.toList i).getD (i - 2) 0) from rfl)
        generalize (sched b.data.toList i).getD (i - 16) 0 = x16 at *
        generalize (sched b.data.toList i).getD (i - 15) 0 = x15 at *
        generalize (sched b.data.toList i).getD (i - 7) 0 = x7 at *
        generalize (sched b.data.toList i).getD (i - 2) 0 = x2 at *
        have j1 : (15 : Int) ≤ (i : Int) := by omega
        have j2 : (2 : Int) ≤ (i : Int) := by omega
        have j3 : (16 : Int) ≤ (i : Int) := by omega
        have j4 : (7 : Int) ≤ (i : Int) := by omega
        have v1 : IntKind.i64.wrap ((i : Int) - 16) = (i : Int) - 16 := IntWalk.i64_in _ (by omega)
        have v2 : IntKind.i64.wrap ((i : Int) - 7) = (i : Int) - 7 := IntWalk.i64_in _ (by omega)
        have n1 : (0 : Int) ≤ (i : Int) - 16 := by omega
        have n2 : (0 : Int) ≤ (i : Int) - 7 := by omega
        have n3 : (i : Int) - 16 < 64 := by omega
        have n4 : (i : Int) - 7 < 64 := by omega
        have t1 : ((i : Int) - 16).toNat = i - 16 := by omega
        have t2 : ((i : Int) - 7).toNat = i - 7 := by omega
        go_wp2_with fail
        refine FM.tail 29 (by kernel_rfl) (by kernel_rfl) ?_
        simp only [List.take_succ_cons, List.take_zero, List.drop_succ_cons, List.drop_zero]
        repeat (first | go_big_quiet_step (((first | (go_at_call_of 146 (Value.int IntKind.i64 7); exact FM.call_drew (rrot_any _ 7 7 _ (by omega) (by omega) rfl)) | (go_at_call_of 146 (Value.int IntKind.i64 18); exact FM.call_drew (rrot_any _ 18 18 _ (by omega) (by omega) rfl)) | (go_at_call_of 146 (Value.int IntKind.i64 17); exact FM.call_drew (rrot_any _ 17 17 _ (by omega) (by omega) rfl)) | (go_at_call_of 146 (Value.int IntKind.i64 19); exact FM.call_drew (rrot_any _ 19 19 _ (by omega) (by omega) rfl))))) | quiet_step (fail))
        refine wpQuiet_nil ?_
        intro x
        go_wp2_with fail
        have RX := Lib.hid (RB.out.keep (FM.own x))
        go_roundw
        case rel => exact ⟨i + 1, by omega, by go_num, Lib.hid (by rw [← wr32_eq, ← NW.out]; exact RX.out.word hlt _ (by rw [if_neg h16]))⟩
        case measure => simp [intOf]; omega
    · obtain rfl : i = 64 := by omega
      have s0 := RB.out.st.cell (i := 0) rfl
      have s1 := RB.out.st.cell (i := 1) rfl
      have s2 := RB.out.st.cell (i := 2) rfl
      have s3 := RB.out.st.cell (i := 3) rfl
      have s4 := RB.out.st.cell (i := 4) rfl
      have s5 := RB.out.st.cell (i := 5) rfl
      have s6 := RB.out.st.cell (i := 6) rfl
      have s7 := RB.out.st.cell (i := 7) rfl
      clear hlt hi
      go_wp2_with fail
      have NA := Lib.hid (At.new wr 140 (u32s s.l))
      have RN := Lib.hid (RB.out.keep ((Only.refl (fun _ => False) wr).alloc (.cells (u32s s.l).toArray 140)))
      have KV : Hid (K + 1 < wr.heap.size) := Lib.hid RB.out.ww.lt
      clear RB s0 s1 s2 s3 s4 s5 s6 s7
      generalize wr.heap.size = V at NA KV ⊢
      go_loopw [11] (fun iv wx => ∃ (i : Nat) (r : S8), i ≤ 64 ∧ iv = .int .i64 i ∧ Hid (Rnd (sched b.data.toList 64) s i r) ∧ Hid (At wx V 140 (u32s r.l)) ∧ Hid (Rb w wx s K b.data.toList 64)) (fun iv _ => 64 - (intOf iv).toNat)
      case atStart => exact ⟨0, s, by omega, rfl, Lib.hid rfl, NA, RN⟩
      case round =>
        clear NA RN
        obtain ⟨i, r, hi, rfl, hr, hV, RB⟩ := hrel
        obtain ⟨ra, rb, rc, rd, re, rf, rg, rh⟩ := r
        by_cases hlt : i < 64
        · have cK := RB.out.kk.cell (rounds_cell i hlt)
          have HW := RB.out.ww
          rw [schedZ_all] at HW
          have cW := HW.cell (sched_cell b.data.toList i hlt)
          clear HW
          have NX := rnd_next hr.out
          generalize kTab.getD i 0 = kk at *
          generalize (sched b.data.toList 64).getD i 0 = ww at *
          rw [round8_eq] at NX
          simp only [bx, mod_a, mod_d] at NX
          have NY := Lib.hid NX
          clear NX
          have i1 : (i : Int) < 64 := by omega
          have p0 := hV.out.cell (i := 0) rfl
          have p4 := hV.out.cell (i := 4) rfl
          obtain ⟨X, F, FM⟩ := fam wr
          have NE := FM.ne
          have c7 := FM.cell (hV.out.cell (i := 7) rfl)
          have c5 := FM.cell (hV.out.cell (i := 5) rfl)
          have c6 := FM.cell (hV.out.cell (i := 6) rfl)
          have cK' := FM.cell cK
          have cW' := FM.cell cW
          have n0 : (0 : Int) ≤ (i : Int) := by omega
          go_wp2_with fail
          refine FM.region (by kernel_rfl) (by kernel_rfl) ?_
          repeat (first | go_big_quiet_step ((first | (go_at_call_of 146 (Value.int IntKind.i64 6); exact FM.call_drew (rrot_any _ 6 6 _ (by omega) (by omega) rfl)) | (go_at_call_of 146 (Value.int IntKind.i64 11); exact FM.call_drew (rrot_any _ 11 11 _ (by omega) (by omega) rfl)) | (go_at_call_of 146 (Value.int IntKind.i64 25); exact FM.call_drew (rrot_any _ 25 25 _ (by omega) (by omega) rfl)))) | quiet_step (fail))
          refine wpQuiet_nil ?_
          intro x
          have o1 := FM.own x
          clear c7 c5 c6 cK' cW' cK cW
          generalize F x = w1 at o1 ⊢
          clear FM NE
          have V1 := Lib.hid (hV.out.only o1 (fun h => h))
          have R1 := Lib.hid (RB.out.keep o1)
          clear o1 hV RB p0 p4
          obtain ⟨X, F, FM⟩ := fam w1
          have NE := FM.ne
          have c1 := FM.cell (V1.out.cell (i := 1) rfl)
          have c2 := FM.cell (V1.out.cell (i := 2) rfl)
          go_wp2_with fail
          refine FM.region (by kernel_rfl) (by kernel_rfl) ?_
          repeat (first | go_big_quiet_step ((first | (go_at_call_of 146 (Value.int IntKind.i64 2); exact FM.call_drew (rrot_any _ 2 2 _ (by omega) (by omega) rfl)) | (go_at_call_of 146 (Value.int IntKind.i64 13); exact FM.call_drew (rrot_any _ 13 13 _ (by omega) (by omega) rfl)) | (go_at_call_of 146 (Value.int IntKind.i64 22); exact FM.call_drew (rrot_any _ 22 22 _ (by omega) (by omega) rfl)))) | quiet_step (fail))
          refine wpQuiet_nil ?_
          intro x
          have o1 := FM.own x
          clear c1 c2
          generalize F x = w2 at o1 ⊢
          clear FM NE
          have V2 := Lib.hid (V1.out.only o1 (fun h => h))
          have R2 := Lib.hid (R1.out.keep o1)
          clear o1 V1 R1
          have p0 := V2.out.cell (i := 0) rfl
          have p1 := V2.out.cell (i := 1) rfl
          have p2 := V2.out.cell (i := 2) rfl
          have p3 := V2.out.cell (i := 3) rfl
          have p4 := V2.out.cell (i := 4) rfl
          have p5 := V2.out.cell (i := 5) rfl
          have p6 := V2.out.cell (i := 6) rfl
          have p7 := V2.out.cell (i := 7) rfl
          go_wp2_with (refine wpl_store_all rfl 140 (.tmp 10) (.tmp 174) rfl V 140 _ _ rfl rfl V2.out rfl (by kernel_rfl) (by simp [Value.oneCell']) ?_; intro w3 h3 o3 s3; have H3 := Lib.hid h3; have O3 := Lib.hid o3; clear h3 o3 s3)
          have R3 := Lib.hid (R2.out.put8 O3.out KV.out)
          go_roundw
          case rel => (repeat apply Exists.intro); exact ⟨⟨i + 1, S8.mk _ _ _ _ _ _ _ _, by omega, by go_num, NY, H3, R3⟩, rfl⟩
          case measure => simp [intOf]; omega
        · obtain rfl : i = 64 := by omega
          have HR : Hid (addB s b.data.toList = sum8 s (S8.mk ra rb rc rd re rf rg rh)) := by
            have := hr.out; unfold Rnd at this; exact Lib.hid (by rw [this]; rfl)
          have HE := Lib.hid (addZ_end s (S8.mk ra rb rc rd re rf rg rh))
          have R1 := RB
          clear hr RB hlt hi
          go_wp2_with fail
          go_loopw [16] (fun iv wx => ∃ i : Nat, i ≤ 8 ∧ iv = .int .i64 i ∧ Hid (Fin8 w wx V (addZ s.l (S8.mk ra rb rc rd re rf rg rh).l i) (u32s (S8.mk ra rb rc rd re rf rg rh).l))) (fun iv _ => 8 - (intOf iv).toNat)
          case atStart => exact ⟨0, by omega, rfl, Lib.hid ⟨R1.out.own, R1.out.st, R1.out.out, hV.out, by have := KV.out; have := R1.out.lt; omega⟩⟩
          case round =>
            clear R1 hV
            obtain ⟨i, hi, rfl, hF⟩ := hrel
            by_cases hlt : i < 8
            · have cS := hF.out.st.cell (addZ_cell s.l (S8.mk ra rb rc rd re rf rg rh).l i hlt)
              have fS := hF.out.st.frozen i
              have NS := Lib.hid (addZ_set s.l (S8.mk ra rb rc rd re rf rg rh).l i)
              have cV := hF.out.v.cell (i := i) (v := .int .u32 ((S8.mk ra rb rc rd re rf rg rh).l.getD i 0)) (by
                have : i < (S8.mk ra rb rc rd re rf rg rh).l.length := hlt
                simp [u32s, List.getD_eq_getElem?_getD, this])
              generalize (S8.mk ra rb rc rd re rf rg rh).l.getD i 0 = x at *
              generalize s.l.getD i 0 = y at *
              have i1 : (i : Int) < 8 := by omega
              go_wp2_with fail
              go_region
              go_wp2_with fail
              go_roundw
              case rel => exact ⟨i + 1, by omega, by go_num, Lib.hid (hF.out.put i _ NS.out).drew⟩
              case measure => simp [intOf]; omega
            · obtain rfl : i = 8 := by omega
              have hF' := hF.out
              rw [HE.out, ← HR.out] at hF'
              have HI := Lib.hid (infoS8 (addB s b.data.toList))
              have H8 := Lib.hid (u32s_one (addB s b.data.toList).l)
              have L8 := Lib.hid (show z8u.length = (u32s (addB s b.data.toList).l).length from rfl)
              obtain ⟨o, ho⟩ : ∃ o, o = addB s b.data.toList := ⟨_, rfl⟩
              rw [← ho] at hF' HI H8 L8
              have HO := Lib.hid ho
              clear ho
              have FF := Lib.hid hF'
              clear hF hF' HR HE hlt hi
              have s0 := FF.out.st.cell (i := 0) rfl
              have s1 := FF.out.st.cell (i := 1) rfl
              have s2 := FF.out.st.cell (i := 2) rfl
              have s3 := FF.out.st.cell (i := 3) rfl
              have s4 := FF.out.st.cell (i := 4) rfl
              have s5 := FF.out.st.cell (i := 5) rfl
              have s6 := FF.out.st.cell (i := 6) rfl
              have s7 := FF.out.st.cell (i := 7) rfl
              go_wp2_with (refine wpl_store_all rfl 140 (.tmp 4) (.tmp 188) rfl (w.heap.size + 1) 140 _ (u32s o.l) rfl rfl FF.out.out L8.out HI.out H8.out ?_; intro w3 h3 o3 z3)
              refine bodyPost_ret (results_all rfl _ (w.heap.size + 1) rfl _ _ _ h3 Tryd.underlying140 rfl HI.out) rfl ⟨by rw [HO.out], ?_⟩
              exact FF.out.own.trans (o3.mono (T := fun i => w.heap.size ≤ i) (fun i _ (h : i = w.heap.size + 1) => by omega)) (fun i hi h => by omega)
end Go.Proofs.YtjmdfipofgmakaaDoor
