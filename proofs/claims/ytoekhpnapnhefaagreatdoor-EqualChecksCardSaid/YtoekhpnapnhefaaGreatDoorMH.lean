/-
  sortesref03.rot: contract.
  sortesref03.block: contract.
  sortesref03.padded: contract.
  sortesref03.Sum: contract.
  sortesref04.number, Scalar: contracts.
-/
import Derived.Laws.IdiomStrings
import Derived.Test.YtoekhpnapnhefaaGreatDoorMC
import Derived.Test.YtoekhpnapnhefaaGreatDoorMA
import Derived.Test.YtoekhpnapnhefaaGreatDoorMD
namespace Go.Proofs.YtoekhpnapnhefaaGreatDoor
open Go.RowKit
set_option linter.unusedVariables false
set_option linter.unusedSimpArgs false

theorem rrot_any (x k : Int) (n : Nat) (w : World) (h1 : 1 ≤ n) (h2 : n ≤ 31) (hk : k = (n : Int)) :
    Calls Tryz.prog 162 #[.int .u32 x, .int .i64 k] w fun e w' => e = .returned (.int .u32 (rr x n)) ∧ ∃ j, w' = w.drewN j := by
  subst hk
  have i1 : (0 : Int) ≤ (n : Int) := by omega
  have i2 : (0 : Int) ≤ 32 - (n : Int) := by omega
  have i3 : (32 - (n : Int)).toNat = 32 - n := by omega
  go_enter Tryz.func162, Tryz.ntmps162
  go_wp2_with fail
  go_quiet (fail)
  go_wp2_with fail
  go_ret
  exact ⟨ret_u32 rfl, _, rfl⟩
end Go.Proofs.YtoekhpnapnhefaaGreatDoor

namespace Go.Proofs.YtoekhpnapnhefaaGreatDoor
open Go.RowKit
set_option linter.unusedVariables false
set_option linter.unusedSimpArgs false

theorem infoS8 (s : S8) : (Tryz.prog.info? 161).map (·.size) = some (u32s s.l).length := by kernel_rfl
def z8u : List Value := List.replicate 8 (Value.int .u32 0)
/-- the worlds of a round -/
structure Rb (w W : World) (s : S8) (K : Nat) (B : List UInt8) (i : Nat) : Prop where
  own : Only (fun _ => False) w W
  st : At W w.heap.size 161 (u32s s.l)
  out : At W (w.heap.size + 1) 161 z8u
  kk : At W K 185 (u32s kTab)
  ww : At W (K + 1) 185 (u32s (schedZ B i))
  lt : w.heap.size + 1 < K
theorem Rb.keep {w W W' : World} {s : S8} {K : Nat} {B : List UInt8} {i : Nat} (h : Rb w W s K B i) (o : Only (fun _ => False) W W') : Rb w W' s K B i :=
  ⟨h.own.trans o (fun _ _ h => h), h.st.only o (fun h => h), h.out.only o (fun h => h), h.kk.only o (fun h => h), h.ww.only o (fun h => h), h.lt⟩
theorem Rb.word {w W : World} {s : S8} {K : Nat} {B : List UInt8} {i : Nat} (h : Rb w W s K B i) (hi : i < 64) (v : Int) (hv : v = if i < 16 then be32 B i else nextW (sched B i) i) : Rb w (W.setCell ⟨K + 1, i, none⟩ (.int .u32 v)) s K B (i + 1) := by
  have hl := h.lt
  have hz := h.own.size
  refine ⟨h.own.put (p := ⟨K + 1, i, none⟩) (fun hlt => by have : K + 1 < w.heap.size := hlt; omega) _, h.st.far (p := ⟨K + 1, i, none⟩) (by dsimp only; omega) _, h.out.far (p := ⟨K + 1, i, none⟩) (by dsimp only; omega) _, h.kk.far (p := ⟨K + 1, i, none⟩) (by dsimp only; omega) _, ?_, hl⟩
  rw [← schedZ_set B i hi v hv]
  exact h.ww.put i _
theorem Rb.far8 {w W W1 W2 : World} {s : S8} {K : Nat} {B : List UInt8} {i : Nat} (h : Rb w W s K B i) (h1 : Rb w W1 s K B i) (o : Only (· = W.heap.size) W1 W2) : Rb w W2 s K B i := by
  have l1 := h.st.lt
  have l2 := h.out.lt
  have l3 := h.kk.lt
  have l4 := h.ww.lt
  exact ⟨h1.own.trans (o.mono (T := fun i => w.heap.size ≤ i) (fun i _ e => by omega)) (fun i hi e => by omega), h1.st.only o (by omega), h1.out.only o (by omega), h1.kk.only o (by omega), h1.ww.only o (by omega), h.lt⟩
theorem Rb.put8 {w W W2 : World} {s : S8} {K V : Nat} {B : List UInt8} {i : Nat} (h : Rb w W s K B i) (o : Only (· = V) W W2) (hV : K + 1 < V) : Rb w W2 s K B i := by
  have l := h.lt
  exact ⟨h.own.trans (o.mono (T := fun i => w.heap.size ≤ i) (fun i _ e => by omega)) (fun i hi e => by omega), h.st.only o (by omega), h.out.only o (by omega), h.kk.only o (by omega), h.ww.only o (by omega), h.lt⟩
theorem mod_a (T U : Int) : (T % 4294967296 + U) % 4294967296 = (T + U) % 4294967296 := by omega
theorem mod_d (d T : Int) : (d + T % 4294967296) % 4294967296 = (d + T) % 4294967296 := by omega
/-- the worlds of the last loop -/
structure Fin8 (w W : World) (V : Nat) (st : List Int) (vs : List Value) : Prop where
  own : Only (fun _ => False) w W
  st : At W w.heap.size 161 (u32s st)
  out : At W (w.heap.size + 1) 161 z8u
  v : At W V 161 vs
  lt : w.heap.size + 1 < V
theorem Fin8.put {w W : World} {V : Nat} {st st' : List Int} {vs : List Value} (h : Fin8 w W V st vs) (i : Nat) (u : Value) (he : (u32s st).set i u = u32s st') : Fin8 w (W.setCell ⟨w.heap.size, i, none⟩ u) V st' vs := by
  have l := h.lt
  have z := h.own.size
  exact ⟨h.own.put (p := ⟨w.heap.size, i, none⟩) (fun hh => absurd hh (Nat.lt_irrefl _)) _, by rw [← he]; exact h.st.put i u, h.out.far (p := ⟨w.heap.size, i, none⟩) (by dsimp only; omega) _, h.v.far (p := ⟨w.heap.size, i, none⟩) (by dsimp only; omega) _, l⟩
theorem Fin8.drew {w W : World} {V : Nat} {st : List Int} {vs : List Value} (h : Fin8 w W V st vs) : Fin8 w W.drew V st vs := ⟨h.own.drew, h.st.drew, h.out.drew, h.v.drew, h.lt⟩
theorem be_bytes (b : ByteArray) (i : Nat) (h : 4 * i + 3 < b.size) : bits BinOp.or IntKind.u32 (bits BinOp.or IntKind.u32 (bits BinOp.or IntKind.u32 ((b[4 * i]'(by omega)).toNat % 4294967296 * 16777216 % 4294967296 : Int) ((b[4 * i + 1]'(by omega)).toNat % 4294967296 * 65536 % 4294967296 : Int))
    ((b[4 * i + 2]'(by omega)).toNat % 4294967296 * 256 % 4294967296 : Int)) ((b[4 * i + 3]'h).toNat % 4294967296 : Int) = be32 b.data.toList i := by
  have e : ∀ (k : Nat) (hk : k < b.size), b.data.toList.getD k 0 = b[k] := fun k hk => by
    have : k < b.data.toList.length := by simpa using hk
    rw [List.getD_eq_getElem?_getD, List.getElem?_eq_getElem this]
    rfl
  unfold be32 be4
  rw [e _ (by omega), e _ (by omega), e _ (by omega), e _ h]
  have l0 := u8_le (b[4 * i]'(by omega))
  have l1 := u8_le (b[4 * i + 1]'(by omega))
  have l2 := u8_le (b[4 * i + 2]'(by omega))
  have l3 := u8_le (b[4 * i + 3]'h)
  unfold bo
  congr 1
  · congr 1
    · congr 1 <;> omega
    · omega
  · omega
set_option maxRecDepth 100000 in
set_option maxHeartbeats 2000000 in
theorem rblock_any (s : S8) (b : ByteArray) (w : World) (hB : b.size = 64) :
    Calls Tryz.prog 137 #[.agg (u32s s.l).toArray, .string b] w fun e w' => e = .returned (.agg (u32s (addB s b.data.toList).l).toArray) ∧ Only (fun _ => False) w w' := by
  have HB := Lib.hid hB
  have H2 := Lib.hid (u32s_one kTab)
  clear hB
  go_enter Tryz.func137, Tryz.ntmps137
  go_wp2_with fail
  have a0 := At.new w 161 (u32s s.l)
  have o0 := (Only.refl (fun _ => False) w).alloc (.cells (u32s s.l).toArray 161)
  have s0 : (w.alloc (.cells (u32s s.l).toArray 161)).heap.size = w.heap.size + 1 := by simp
  have a1 := At.new (w.alloc (.cells (u32s s.l).toArray 161)) 161 z8u
  have o1 := (Only.refl (fun _ => False) (w.alloc (.cells (u32s s.l).toArray 161))).alloc (.cells z8u.toArray 161)
  rw [s0] at a1
  have A0 := Lib.hid (a0.only o1 (fun h => h))
  have A1 := Lib.hid a1
  have O1 := Lib.hid (o0.trans o1 (fun _ _ h => h))
  clear a0 o0 s0 a1 o1
  refine (rrounds_any _).mono ?_
  rintro e w2 ⟨rfl, o2⟩
  have A2 := Lib.hid (A0.out.only o2 (fun h => h))
  have B2 := Lib.hid (A1.out.only o2 (fun h => h))
  have O2 := Lib.hid (O1.out.trans o2 (fun _ _ h => h))
  clear o2 A0 A1 O1
  go_wp2_with (first | (with_reducible refine wpl_alloc_all (o := ⟨some 5, _, _, _, _, _⟩) rfl _ rfl _ (zero64 _) ?_; intro w3 h3 o3 s3; have S3 := Lib.hid s3; have H3 := Lib.hid h3; have O3 := Lib.hid o3; clear s3 h3 o3) |
    (refine wpl_store_all rfl 185 (.tmp 5) (.tmp 17) rfl w2.heap.size 185 zeros (u32s kTab) rfl rfl H3.out lenK infoK H2.out ?_; intro w4 h4 o4 s4; have S4 := Lib.hid s4; have H4 := Lib.hid h4; have O4 := Lib.hid o4; clear s4 h4 o4) |
    (with_reducible refine wpl_alloc_all (o := ⟨some 6, _, _, _, _, _⟩) rfl _ rfl _ (zero64 _) ?_; intro w5 h5 o5 s5; have S5 := Lib.hid s5; have H5 := Lib.hid h5; have O5 := Lib.hid o5; clear s5 h5 o5))
  have RB : Hid (Rb w w5 s w2.heap.size b.data.toList 0) := by
    have l2 := B2.out.lt
    have z2 := O2.out.size
    have e3 : w3.heap.size = w2.heap.size + 1 := S3.out
    have e4 : w4.heap.size = w3.heap.size := S4.out
    have q3 : Only (fun i => w2.heap.size ≤ i) w2 w4 := (O3.out.mono (fun _ _ h => h.elim)).trans (O4.out.mono (T := fun i => w2.heap.size ≤ i) (fun i _ h => by omega)) (fun _ _ h => h)
    have q5 : Only (fun i => w2.heap.size ≤ i) w2 w5 := q3.trans (O5.out.mono (T := fun _ => False) (fun _ _ h => h)) (fun _ _ h => h.elim)
    refine ⟨O2.out.trans q5 (fun i hi h => by omega), A2.out.only q5 (by omega), B2.out.only q5 (by omega), H4.out.only O5.out (fun h => h), ?_, by omega⟩
    have := H5.out
    rw [e4, e3] at this
    rw [schedZ_zero]
    exact this
  have e4 : w4.heap.size = w2.heap.size + 1 := by have := S3.out; have := S4.out; omega
  rw [e4]
  clear e4 A2 B2 O2 S3 H3 O3 S4 H4 O4 H5 O5 S5
  generalize w2.heap.size = K at RB ⊢
  go_loopw [7] (fun iv wr => ∃ i : Nat, i ≤ 64 ∧ iv = .int .i64 i ∧ Hid (Rb w wr s K b.data.toList i)) (fun iv _ => 64 - (intOf iv).toNat)
  case atStart => exact ⟨0, by omega, rfl, RB⟩
  case round =>
    clear RB
    obtain ⟨i, hi, rfl, RB⟩ := hrel
    by_cases hlt : i < 64
    · obtain ⟨X, F, FM⟩ := fam wr
      have NE := FM.ne
      have j5 : (i : Int) < 64 := by omega
      by_cases h16 : i < 16
      · have hbz : 4 * i + 3 < b.size := by have := HB.out; omega
        have i1 : (4 : Int) * (i : Int) < (b.size : Int) := by omega
        have i2 : (4 : Int) * (i : Int) + 1 < (b.size : Int) := by omega
        have i3 : (4 : Int) * (i : Int) + 2 < (b.size : Int) := by omega
        have i4 : (4 : Int) * (i : Int) + 3 < (b.size : Int) := by omega
        have v1 : IntKind.i64.wrap (4 * (i : Int)) = 4 * (i : Int) := IntWalk.i64_in _ (by omega)
        have v2 : IntKind.i64.wrap (4 * (i : Int) + 1) = 4 * (i : Int) + 1 := IntWalk.i64_in _ (by omega)
        have v3 : IntKind.i64.wrap (4 * (i : Int) + 2) = 4 * (i : Int) + 2 := IntWalk.i64_in _ (by omega)
        have v4 : IntKind.i64.wrap (4 * (i : Int) + 3) = 4 * (i : Int) + 3 := IntWalk.i64_in _ (by omega)
        have n1 : (0 : Int) ≤ 4 * (i : Int) := by omega
        have n2 : (0 : Int) ≤ 4 * (i : Int) + 1 := by omega
        have n3 : (0 : Int) ≤ 4 * (i : Int) + 2 := by omega
        have n4 : (0 : Int) ≤ 4 * (i : Int) + 3 := by omega
        have t1 : (4 * (i : Int)).toNat = 4 * i := by omega
        have t2 : (4 * (i : Int) + 1).toNat = 4 * i + 1 := by omega
        have t3 : (4 * (i : Int) + 2).toNat = 4 * i + 2 := by omega
        have t4 : (4 * (i : Int) + 3).toNat = 4 * i + 3 := by omega
        have cz := FM.cell (RB.out.ww.cell (schedZ_cell b.data.toList i hlt))
        have fz := FM.frozen RB.out.ww i
        go_wp2_with fail
        refine FM.tail 31 (by kernel_rfl) (by kernel_rfl) ?_
        simp only [List.take_succ_cons, List.take_zero, List.drop_succ_cons, List.drop_zero]
        repeat (first | go_big_quiet_step (fail) | quiet_step (fail))
        refine wpQuiet_nil ?_
        intro x
        go_wp2_with fail
        have BE := Lib.hid (be_bytes b i hbz)
        have RX := Lib.hid (RB.out.keep (FM.own x))
        go_roundw
        case rel => exact ⟨i + 1, by omega, by go_num, Lib.hid (by rw [BE.out]; exact RX.out.word hlt (be32 b.data.toList i) (by rw [if_pos h16]))⟩
        case measure => simp [intOf]; omega
      · have c16 := FM.cell (RB.out.ww.cell (schedZ_get b.data.toList i (i - 16) hi (by omega)))
        have c15 := RB.out.ww.cell (schedZ_get b.data.toList i (i - 15) hi (by omega))
        have c7 := FM.cell (RB.out.ww.cell (schedZ_get b.data.toList i (i - 7) hi (by omega)))
        have c2 := RB.out.ww.cell (schedZ_get b.data.toList i (i - 2) hi (by omega))
        have cz := FM.cell (RB.out.ww.cell (schedZ_cell b.data.toList i hlt))
        have fz := FM.frozen RB.out.ww i
        have NW := Lib.hid (show nextW (sched b.data.toList i) i = wr32 ((sched b.data.toList i).getD (i - 16) 0) ((sched b.data.toList i).getD (i - 15) 0) ((sched b.data.toList i).getD (i - 7) 0) ((sched b.data.toList i).getD (i - 2) 0) from rfl)
        generalize (sched b.data.toList i).getD (i - 16) 0 = x16 at *
        generalize (sched b.data.toList i).getD (i - 15) 0 = x15 at *
        generalize (sched b.data.toList i).getD (i - 7) 0 = x7 at *
        generalize (sched b.data.toList i).getD (i - 2) 0 = x2 at *
        have j1 : (15 : Int) ≤ (i : Int) := by omega
        have j2 : (2 : Int) ≤ (i : Int) := by omega
        have j3 : (16 : Int) ≤ (i : Int) := by omega
        have j4 : (7 : Int) ≤ (i : Int) := by omega
        have v1 : IntKind.i64.wrap ((i : Int) - 16) = (i : Int) - 16 := IntWalk.i64_in _ (by omega)
        have v2 : IntKind.i64.wrap ((i : Int) - 7) = (i : Int) - 7 := IntWalk.i64_in _ (by omega)
        have n1 : (0 : Int) ≤ (i : Int) - 16 := by omega
        have n2 : (0 : Int) ≤ (i : Int) - 7 := by omega
        have n3 : (i : Int) - 16 < 64 := by omega
        have n4 : (i : Int) - 7 < 64 := by omega
        have t1 : ((i : Int) - 16).toNat = i - 16 := by omega
        have t2 : ((i : Int) - 7).toNat = i - 7 := by omega
        go_wp2_with fail
        refine FM.tail 29 (by kernel_rfl) (by kernel_rfl) ?_
        simp only [List.take_succ_cons, List.take_zero, List.drop_succ_cons, List.drop_zero]
        repeat (first | go_big_quiet_step (((first | (go_at_call_of 162 (Value.int IntKind.i64 7); exact FM.call_drew (rrot_any _ 7 7 _ (by omega) (by omega) rfl)) | (go_at_call_of 162 (Value.int IntKind.i64 18); exact FM.call_drew (rrot_any _ 18 18 _ (by omega) (by omega) rfl)) | (go_at_call_of 162 (Value.int IntKind.i64 17); exact FM.call_drew (rrot_any _ 17 17 _ (by omega) (by omega) rfl)) | (go_at_call_of 162 (Value.int IntKind.i64 19); exact FM.call_drew (rrot_any _ 19 19 _ (by omega) (by omega) rfl))))) | quiet_step (fail))
        refine wpQuiet_nil ?_
        intro x
        go_wp2_with fail
        have RX := Lib.hid (RB.out.keep (FM.own x))
        go_roundw
        case rel => exact ⟨i + 1, by omega, by go_num, Lib.hid (by rw [← wr32_eq, ← NW.out]; exact RX.out.word hlt _ (by rw [if_neg h16]))⟩
        case measure => simp [intOf]; omega
    · obtain rfl : i = 64 := by omega
      have s0 := RB.out.st.cell (i := 0) rfl
      have s1 := RB.out.st.cell (i := 1) rfl
      have s2 := RB.out.st.cell (i := 2) rfl
      have s3 := RB.out.st.cell (i := 3) rfl
      have s4 := RB.out.st.cell (i := 4) rfl
      have s5 := RB.out.st.cell (i := 5) rfl
      have s6 := RB.out.st.cell (i := 6) rfl
      have s7 := RB.out.st.cell (i := 7) rfl
      clear hlt hi
      go_wp2_with fail
      have NA := Lib.hid (At.new wr 161 (u32s s.l))
      have RN := Lib.hid (RB.out.keep ((Only.refl (fun _ => False) wr).alloc (.cells (u32s s.l).toArray 161)))
      have KV : Hid (K + 1 < wr.heap.size) := Lib.hid RB.out.ww.lt
      clear RB s0 s1 s2 s3 s4 s5 s6 s7
      generalize wr.heap.size = V at NA KV ⊢
      go_loopw [11] (fun iv wx => ∃ (i : Nat) (r : S8), i ≤ 64 ∧ iv = .int .i64 i ∧ Hid (Rnd (sched b.data.toList 64) s i r) ∧ Hid (At wx V 161 (u32s r.l)) ∧ Hid (Rb w wx s K b.data.toList 64)) (fun iv _ => 64 - (intOf iv).toNat)
      case atStart => exact ⟨0, s, by omega, rfl, Lib.hid rfl, NA, RN⟩
      case round =>
        clear NA RN
        obtain ⟨i, r, hi, rfl, hr, hV, RB⟩ := hrel
        obtain ⟨ra, rb, rc, rd, re, rf, rg, rh⟩ := r
        by_cases hlt : i < 64
        · have cK := RB.out.kk.cell (rounds_cell i hlt)
          have HW := RB.out.ww
          rw [schedZ_all] at HW
          have cW := HW.cell (sched_cell b.data.toList i hlt)
          clear HW
          have NX := rnd_next hr.out
          generalize kTab.getD i 0 = kk at *
          generalize (sched b.data.toList 64).getD i 0 = ww at *
          rw [round8_eq] at NX
          simp only [bx, mod_a, mod_d] at NX
          have NY := Lib.hid NX
          clear NX
          have i1 : (i : Int) < 64 := by omega
          have p0 := hV.out.cell (i := 0) rfl
          have p4 := hV.out.cell (i := 4) rfl
          obtain ⟨X, F, FM⟩ := fam wr
          have NE := FM.ne
          have c7 := FM.cell (hV.out.cell (i := 7) rfl)
          have c5 := FM.cell (hV.out.cell (i := 5) rfl)
          have c6 := FM.cell (hV.out.cell (i := 6) rfl)
          have cK' := FM.cell cK
          have cW' := FM.cell cW
          have n0 : (0 : Int) ≤ (i : Int) := by omega
          go_wp2_with fail
          refine FM.region (by kernel_rfl) (by kernel_rfl) ?_
          repeat (first | go_big_quiet_step ((first | (go_at_call_of 162 (Value.int IntKind.i64 6); exact FM.call_drew (rrot_any _ 6 6 _ (by omega) (by omega) rfl)) | (go_at_call_of 162 (Value.int IntKind.i64 11); exact FM.call_drew (rrot_any _ 11 11 _ (by omega) (by omega) rfl)) | (go_at_call_of 162 (Value.int IntKind.i64 25); exact FM.call_drew (rrot_any _ 25 25 _ (by omega) (by omega) rfl)))) | quiet_step (fail))
          refine wpQuiet_nil ?_
          intro x
          have o1 := FM.own x
          clear c7 c5 c6 cK' cW' cK cW
          generalize F x = w1 at o1 ⊢
          clear FM NE
          have V1 := Lib.hid (hV.out.only o1 (fun h => h))
          have R1 := Lib.hid (RB.out.keep o1)
          clear o1 hV RB p0 p4
          obtain ⟨X, F, FM⟩ := fam w1
          have NE := FM.ne
          have c1 := FM.cell (V1.out.cell (i := 1) rfl)
          have c2 := FM.cell (V1.out.cell (i := 2) rfl)
          go_wp2_with fail
          refine FM.region (by kernel_rfl) (by kernel_rfl) ?_
          repeat (first | go_big_quiet_step ((first | (go_at_call_of 162 (Value.int IntKind.i64 2); exact FM.call_drew (rrot_any _ 2 2 _ (by omega) (by omega) rfl)) | (go_at_call_of 162 (Value.int IntKind.i64 13); exact FM.call_drew (rrot_any _ 13 13 _ (by omega) (by omega) rfl)) | (go_at_call_of 162 (Value.int IntKind.i64 22); exact FM.call_drew (rrot_any _ 22 22 _ (by omega) (by omega) rfl)))) | quiet_step (fail))
          refine wpQuiet_nil ?_
          intro x
          have o1 := FM.own x
          clear c1 c2
          generalize F x = w2 at o1 ⊢
          clear FM NE
          have V2 := Lib.hid (V1.out.only o1 (fun h => h))
          have R2 := Lib.hid (R1.out.keep o1)
          clear o1 V1 R1
          have p0 := V2.out.cell (i := 0) rfl
          have p1 := V2.out.cell (i := 1) rfl
          have p2 := V2.out.cell (i := 2) rfl
          have p3 := V2.out.cell (i := 3) rfl
          have p4 := V2.out.cell (i := 4) rfl
          have p5 := V2.out.cell (i := 5) rfl
          have p6 := V2.out.cell (i := 6) rfl
          have p7 := V2.out.cell (i := 7) rfl
          go_wp2_with (refine wpl_store_all rfl 161 (.tmp 10) (.tmp 174) rfl V 161 _ _ rfl rfl V2.out rfl (by kernel_rfl) (by simp [Value.oneCell']) ?_; intro w3 h3 o3 s3; have H3 := Lib.hid h3; have O3 := Lib.hid o3; clear h3 o3 s3)
          have R3 := Lib.hid (R2.out.put8 O3.out KV.out)
          go_roundw
          case rel => (repeat apply Exists.intro); exact ⟨⟨i + 1, S8.mk _ _ _ _ _ _ _ _, by omega, by go_num, NY, H3, R3⟩, rfl⟩
          case measure => simp [intOf]; omega
        · obtain rfl : i = 64 := by omega
          have HR : Hid (addB s b.data.toList = sum8 s (S8.mk ra rb rc rd re rf rg rh)) := by
            have := hr.out; unfold Rnd at this; exact Lib.hid (by rw [this]; rfl)
          have HE := Lib.hid (addZ_end s (S8.mk ra rb rc rd re rf rg rh))
          have R1 := RB
          clear hr RB hlt hi
          go_wp2_with fail
          go_loopw [16] (fun iv wx => ∃ i : Nat, i ≤ 8 ∧ iv = .int .i64 i ∧ Hid (Fin8 w wx V (addZ s.l (S8.mk ra rb rc rd re rf rg rh).l i) (u32s (S8.mk ra rb rc rd re rf rg rh).l))) (fun iv _ => 8 - (intOf iv).toNat)
          case atStart => exact ⟨0, by omega, rfl, Lib.hid ⟨R1.out.own, R1.out.st, R1.out.out, hV.out, by have := KV.out; have := R1.out.lt; omega⟩⟩
          case round =>
            clear R1 hV
            obtain ⟨i, hi, rfl, hF⟩ := hrel
            by_cases hlt : i < 8
            · have cS := hF.out.st.cell (addZ_cell s.l (S8.mk ra rb rc rd re rf rg rh).l i hlt)
              have fS := hF.out.st.frozen i
              have NS := Lib.hid (addZ_set s.l (S8.mk ra rb rc rd re rf rg rh).l i)
              have cV := hF.out.v.cell (i := i) (v := .int .u32 ((S8.mk ra rb rc rd re rf rg rh).l.getD i 0)) (by
                have : i < (S8.mk ra rb rc rd re rf rg rh).l.length := hlt
                simp [u32s, List.getD_eq_getElem?_getD, this])
              generalize (S8.mk ra rb rc rd re rf rg rh).l.getD i 0 = x at *
              generalize s.l.getD i 0 = y at *
              have i1 : (i : Int) < 8 := by omega
              go_wp2_with fail
              go_region
              go_wp2_with fail
              go_roundw
              case rel => exact ⟨i + 1, by omega, by go_num, Lib.hid (hF.out.put i _ NS.out).drew⟩
              case measure => simp [intOf]; omega
            · obtain rfl : i = 8 := by omega
              have hF' := hF.out
              rw [HE.out, ← HR.out] at hF'
              have HI := Lib.hid (infoS8 (addB s b.data.toList))
              have H8 := Lib.hid (u32s_one (addB s b.data.toList).l)
              have L8 := Lib.hid (show z8u.length = (u32s (addB s b.data.toList).l).length from rfl)
              obtain ⟨o, ho⟩ : ∃ o, o = addB s b.data.toList := ⟨_, rfl⟩
              rw [← ho] at hF' HI H8 L8
              have HO := Lib.hid ho
              clear ho
              have FF := Lib.hid hF'
              clear hF hF' HR HE hlt hi
              have s0 := FF.out.st.cell (i := 0) rfl
              have s1 := FF.out.st.cell (i := 1) rfl
              have s2 := FF.out.st.cell (i := 2) rfl
              have s3 := FF.out.st.cell (i := 3) rfl
              have s4 := FF.out.st.cell (i := 4) rfl
              have s5 := FF.out.st.cell (i := 5) rfl
              have s6 := FF.out.st.cell (i := 6) rfl
              have s7 := FF.out.st.cell (i := 7) rfl
              go_wp2_with (refine wpl_store_all rfl 161 (.tmp 4) (.tmp 188) rfl (w.heap.size + 1) 161 _ (u32s o.l) rfl rfl FF.out.out L8.out HI.out H8.out ?_; intro w3 h3 o3 z3)
              refine bodyPost_ret (results_all rfl _ (w.heap.size + 1) rfl _ _ _ h3 Tryz.underlying161 rfl HI.out) rfl ⟨by rw [HO.out], ?_⟩
              exact FF.out.own.trans (o3.mono (T := fun i => w.heap.size ≤ i) (fun i _ (h : i = w.heap.size + 1) => by omega)) (fun i hi h => by omega)
end Go.Proofs.YtoekhpnapnhefaaGreatDoor

namespace Go.Proofs.YtoekhpnapnhefaaGreatDoor
open Go.RowKit Go.Shelf
set_option linter.unusedVariables false
set_option linter.unusedSimpArgs false

theorem bytes_append (a : ByteArray) (l : List UInt8) : (a ++ ByteArray.mk l.toArray).data.toList = a.data.toList ++ l := by
  rw [ByteArray.data_append]; simp
/-- the message so far: some zeros -/
def Pad (s : ByteArray) (t : ByteArray) (j : Nat) : Prop := t.data.toList = s.data.toList ++ 0x80 :: List.replicate j 0 ∧ t.size = s.size + 1 + j
theorem pad_start (s : ByteArray) : Pad s (s ++ ByteArray.mk #[128]) 0 := by
  refine ⟨by rw [show (ByteArray.mk #[128]) = ByteArray.mk ([128] : List UInt8).toArray from rfl, bytes_append]; rfl, ?_⟩
  rw [ByteArray.size_append]; rfl
theorem pad_next {s t : ByteArray} {j : Nat} (h : Pad s t j) : Pad s (t ++ ByteArray.mk #[0]) (j + 1) := by
  obtain ⟨h1, h2⟩ := h
  refine ⟨?_, by rw [ByteArray.size_append, h2]; show _ + 1 = _; omega⟩
  rw [show (ByteArray.mk #[0]) = ByteArray.mk ([0] : List UInt8).toArray from rfl, bytes_append, h1, List.append_assoc, List.cons_append, ← List.replicate_succ']
/-- the length behind the zeros, its first i bytes -/
def len8 (n : Nat) : List UInt8 := by4 ((n * 8 / 4294967296 : Nat) : Int) ++ by4 ((n * 8 % 4294967296 : Nat) : Int)
theorem len8_get (n i : Nat) (h : i < 8) : (len8 n).take (i + 1) = (len8 n).take i ++ [UInt8.ofNat ((n * 8 : Nat) / 2 ^ (8 * (7 - i)) % 256)] := by
  have e : ∀ (x : Nat), by4 (x : Int) = [UInt8.ofNat (x / 16777216 % 256), UInt8.ofNat (x / 65536 % 256), UInt8.ofNat (x / 256 % 256), UInt8.ofNat (x % 256)] := fun x => by
    unfold by4
    have e1 : ((x : Int) / 16777216 % 256).toNat = x / 16777216 % 256 := by omega
    have e2 : ((x : Int) / 65536 % 256).toNat = x / 65536 % 256 := by omega
    have e3 : ((x : Int) / 256 % 256).toNat = x / 256 % 256 := by omega
    have e4 : ((x : Int) % 256).toNat = x % 256 := by omega
    rw [e1, e2, e3, e4]
  unfold len8
  rw [e, e]
  generalize n * 8 = m
  match i, h with
  | 0, _ => simp only [List.cons_append, List.nil_append, List.take_succ_cons, List.take_zero] <;> congr 2 <;> (show _ = m / 72057594037927936 % 256; omega)
  | 1, _ => simp only [List.cons_append, List.nil_append, List.take_succ_cons, List.take_zero] <;> congr 3 <;> (show _ = m / 281474976710656 % 256; omega)
  | 2, _ => simp only [List.cons_append, List.nil_append, List.take_succ_cons, List.take_zero] <;> congr 4 <;> (show _ = m / 1099511627776 % 256; omega)
  | 3, _ => simp only [List.cons_append, List.nil_append, List.take_succ_cons, List.take_zero] <;> congr 5 <;> (show _ = m / 4294967296 % 256; omega)
  | 4, _ => simp only [List.cons_append, List.nil_append, List.take_succ_cons, List.take_zero] <;> congr 6 <;> (show _ = m / 16777216 % 256; omega)
  | 5, _ => simp only [List.cons_append, List.nil_append, List.take_succ_cons, List.take_zero] <;> congr 7 <;> (show _ = m / 65536 % 256; omega)
  | 6, _ => simp only [List.cons_append, List.nil_append, List.take_succ_cons, List.take_zero] <;> congr 8 <;> (show _ = m / 256 % 256; omega)
  | 7, _ => simp only [List.cons_append, List.nil_append, List.take_succ_cons, List.take_zero] <;> congr 9 <;> (show _ = m / 1 % 256; omega)
/-- the message so far: i bytes of the length -/
def Pae (s : ByteArray) (t : ByteArray) (i : Nat) : Prop := t.data.toList = s.data.toList ++ 0x80 :: List.replicate (padTo s.size) 0 ++ (len8 s.size).take i ∧ t.size = s.size + 1 + padTo s.size + i
theorem pae_start {s t : ByteArray} {j : Nat} (h : Pad s t j) (hj : j = padTo s.size) : Pae s t 0 := by
  subst hj; exact ⟨by rw [List.take_zero, List.append_nil]; exact h.1, h.2⟩
theorem pae_next {s t : ByteArray} {i : Nat} (h : Pae s t i) (hi : i < 8) (x : UInt8) (hx : x = UInt8.ofNat ((s.size * 8 : Nat) / 2 ^ (8 * (7 - i)) % 256)) : Pae s (t ++ ByteArray.mk #[x]) (i + 1) := by
  obtain ⟨h1, h2⟩ := h
  refine ⟨?_, by rw [ByteArray.size_append, h2]; show _ + 1 = _; omega⟩
  rw [show (ByteArray.mk #[x]) = ByteArray.mk [x].toArray from rfl, bytes_append, h1, len8_get _ _ hi, hx, List.append_assoc]
theorem pae_end {s t : ByteArray} (h : Pae s t 8) : t.data.toList = padded s.data.toList := by
  rw [h.1, padded]
  have e : s.data.toList.length = s.size := Array.length_toList
  rw [e, List.append_assoc, List.take_of_length_le (by simp [len8, by4])]
  rw [show len8 s.size = by4 ((s.size * 8 / 4294967296 : Nat) : Int) ++ by4 ((s.size * 8 % 4294967296 : Nat) : Int) from rfl]
  simp
/-- string([]byte of one) -/
theorem conv1 (w : World) (x : UInt8) (v : Int) (hv : v = (x.toNat : Int)) : (convert 46 9 (.slice (some ⟨w.heap.size, 0, none⟩) 1 1)).run Tryz.prog (w.alloc (.cells #[.int .u8 v] 5)) = .ok (.string ⟨#[x]⟩) (w.alloc (.cells #[.int .u8 v] 5)) := by
  subst hv
  exact run_convert_bytes_back (P := Tryz.prog) _ 46 9 5 ⟨w.heap.size, 0, none⟩ 1 [x] Tryz.underlying46 Tryz.underlying5 Tryz.underlying9 (fun j hj => by
    have : j = 0 := by simp at hj; omega
    subst this
    exact (At.new w 5 [.int .u8 (x.toNat : Int)]).cell (i := 0) rfl)
set_option maxRecDepth 100000 in
set_option maxHeartbeats 1000000 in
theorem rpadded_any (s : ByteArray) (w : World) (hs : s.size ≤ 140737488354000) :
    Calls Tryz.prog 136 #[.string s] w fun e w' => ∃ t : ByteArray, e = .returned (.string t) ∧ t.data.toList = padded s.data.toList ∧ Only (fun _ => False) w w' := by
  have hn1 : ¬ (9223372036854775807 < s.size + 1) := by omega
  go_enter Tryz.func136, Tryz.ntmps136
  go_wp2_with fail
  go_loop [3] (fun tv => ∃ (t : ByteArray) (j : Nat), j ≤ padTo s.size ∧ tv = .string t ∧ Hid (Pad s t j)) (fun tv => match tv with | .string t => s.size + 1 + padTo s.size - t.size | _ => 0)
  case atStart => exact ⟨_, 0, Nat.zero_le _, rfl, Lib.hid (pad_start s)⟩
  case round =>
    obtain ⟨t, j, hj, rfl, hp⟩ := hrel
    have hz := hp.out.2
    have hpt : padTo s.size < 64 := by unfold padTo; omega
    have HZ := Lib.hid hz
    by_cases hlt : j < padTo s.size
    · have hb : ((t.size : Int) % 64 != 56) = true := by
        have : (s.size + 1 + j) % 64 ≠ 56 := by unfold padTo at hlt; omega
        rw [bne_iff_ne]; omega
      have hn : ¬ (9223372036854775807 < t.size + 1) := by omega
      have hn2 : (t.size : Int) ≤ 9223372036854775807 := by omega
      clear hz
      go_wp2_with fail
      go_round
      case rel => exact ⟨_, j + 1, by omega, rfl, Lib.hid (pad_next hp.out)⟩
      case measure =>
        have := HZ.out
        show s.size + 1 + padTo s.size - (t ++ ByteArray.mk #[0]).size < s.size + 1 + padTo s.size - t.size
        rw [ByteArray.size_append, show (ByteArray.mk #[0]).size = 1 from rfl]
        omega
    · have hje : j = padTo s.size := by omega
      have hb : ((t.size : Int) % 64 != 56) = false := by
        have : (s.size + 1 + j) % 64 = 56 := by rw [hje]; unfold padTo; omega
        rw [bne_eq_false_iff_eq]; omega
      have hn2 : (t.size : Int) ≤ 9223372036854775807 := by omega
      have PS := Lib.hid (pae_start hp.out hje)
      clear hz hje hlt hj HZ
      go_wp2_with fail
      go_loopw [3, 5] (fun tv iv wr => ∃ (t : ByteArray) (k : Nat), k ≤ 8 ∧ tv = .string t ∧ iv = .int .i64 (7 - (k : Int)) ∧ Hid (Pae s t k) ∧ Hid (Only (fun _ => False) w wr)) (fun _ iv _ => (intOf iv + 1).toNat)
      case atStart => exact ⟨t, 0, by omega, rfl, rfl, PS, Lib.hid (Only.refl _ _)⟩
      case round =>
        clear PS hp
        obtain ⟨t, k, hk, rfl, rfl, hp, hO⟩ := hrel
        have hz := hp.out.2
        by_cases hlt : k < 8
        · have hn : ¬ (9223372036854775807 < t.size + 1) := by omega
          have i1 : (0 : Int) ≤ 7 - (k : Int) := by omega
          have i2 : (k : Int) ≤ 7 := by omega
          have i5 : IntKind.i64.wrap (8 * (7 - (k : Int))) = 8 * (7 - (k : Int)) := by rw [IntKind.wrap_i64]; omega
          have i6 : (0 : Int) ≤ 8 * (7 - (k : Int)) := by omega
          have i7 : (8 * (7 - (k : Int))).toNat = 8 * (7 - k) := by omega
          have hx : ((s.size : Int) * 8 / 2 ^ (8 * (7 - k)) % 256) = ((UInt8.ofNat ((s.size * 8 : Nat) / 2 ^ (8 * (7 - k)) % 256)).toNat : Int) := by
            rw [UInt8.toNat_ofNat']
            generalize hq : (s.size * 8 : Nat) / 2 ^ (8 * (7 - k)) = q
            have : ((s.size : Int) * 8 / 2 ^ (8 * (7 - k))) = (q : Int) := by rw [← hq]; simp
            rw [this]; omega
          have hcv := conv1 wr (UInt8.ofNat ((s.size * 8 : Nat) / 2 ^ (8 * (7 - k)) % 256)) _ hx
          have NP := Lib.hid (pae_next hp.out hlt _ rfl)
          clear hz hx hp
          generalize UInt8.ofNat ((s.size * 8 : Nat) / 2 ^ (8 * (7 - k)) % 256) = x at *
          go_wp2_with fail
          go_roundw
          case rel => exact ⟨_, k + 1, by omega, rfl, by congr 1; omega, NP, Lib.hid (hO.out.alloc _)⟩
          case measure => simp [intOf]; omega
        · obtain rfl : k = 8 := by omega
          have PE := Lib.hid (pae_end hp.out)
          clear hz hp
          go_wp2_with fail
          go_ret
          exact ⟨t, rfl, PE.out, hO.out⟩
end Go.Proofs.YtoekhpnapnhefaaGreatDoor

namespace Go.Proofs.YtoekhpnapnhefaaGreatDoor
open Go.RowKit Go.Shelf
set_option linter.unusedVariables false
set_option linter.unusedSimpArgs false

/-- the worlds of the first loop -/
structure Rs (w W : World) (st : S8) : Prop where
  own : Only (fun _ => False) w W
  out : At W w.heap.size 138 z32
  st : At W (w.heap.size + 1) 161 (u32s st.l)
theorem Rs.keep {w W W' : World} {st : S8} (h : Rs w W st) (o : Only (fun _ => False) W W') : Rs w W' st :=
  ⟨h.own.trans o (fun _ _ h => h), h.out.only o (fun h => h), h.st.only o (fun h => h)⟩
theorem Rs.put {w W W' : World} {st st' : S8} (h : Rs w W st) (o : Only (· = w.heap.size + 1) W W') (h' : At W' (w.heap.size + 1) 161 (u32s st'.l)) : Rs w W' st' :=
  ⟨h.own.trans (o.mono (T := fun i => w.heap.size ≤ i) (fun i _ e => by omega)) (fun i hi e => by omega), h.out.only o (by omega), h'⟩
theorem Rs.putV {w W : World} {st : S8} {V i : Nat} {u : Value} (h : Rs w W st) (hV : w.heap.size + 1 < V) : Rs w (W.setCell ⟨V, i, none⟩ u) st :=
  ⟨h.own.put (p := ⟨V, i, none⟩) (fun hh => by have : V < w.heap.size := hh; omega) _, h.out.far (p := ⟨V, i, none⟩) (by dsimp only; omega) _, h.st.far (p := ⟨V, i, none⟩) (by dsimp only; omega) _⟩
theorem extract_chunk (t : ByteArray) (k : Nat) : (t.extract (64 * k) (64 * k + 64)).data.toList = chunkOf t.data.toList k := by
  unfold chunkOf
  rw [ByteArray.data_extract, Array.toList_extract, List.extract_eq_take_drop]
  congr 1; omega
theorem out_get (st : S8) (i : Nat) (h : i < 32) : st.out.getD i 0 = UInt8.ofNat (st.l.getD (i / 4) 0 / 2 ^ (8 * (3 - i % 4)) % 256).toNat := by
  obtain ⟨a, b, c, d, e, f, g, h'⟩ := st
  match i, h with
  | 0, _ => rfl
  | 1, _ => rfl
  | 2, _ => rfl
  | 3, _ => show _ = UInt8.ofNat ((_ : Int) / 1 % 256).toNat; rw [Int.ediv_one]; rfl
  | 4, _ => rfl
  | 5, _ => rfl
  | 6, _ => rfl
  | 7, _ => show _ = UInt8.ofNat ((_ : Int) / 1 % 256).toNat; rw [Int.ediv_one]; rfl
  | 8, _ => rfl
  | 9, _ => rfl
  | 10, _ => rfl
  | 11, _ => show _ = UInt8.ofNat ((_ : Int) / 1 % 256).toNat; rw [Int.ediv_one]; rfl
  | 12, _ => rfl
  | 13, _ => rfl
  | 14, _ => rfl
  | 15, _ => show _ = UInt8.ofNat ((_ : Int) / 1 % 256).toNat; rw [Int.ediv_one]; rfl
  | 16, _ => rfl
  | 17, _ => rfl
  | 18, _ => rfl
  | 19, _ => show _ = UInt8.ofNat ((_ : Int) / 1 % 256).toNat; rw [Int.ediv_one]; rfl
  | 20, _ => rfl
  | 21, _ => rfl
  | 22, _ => rfl
  | 23, _ => show _ = UInt8.ofNat ((_ : Int) / 1 % 256).toNat; rw [Int.ediv_one]; rfl
  | 24, _ => rfl
  | 25, _ => rfl
  | 26, _ => rfl
  | 27, _ => show _ = UInt8.ofNat ((_ : Int) / 1 % 256).toNat; rw [Int.ediv_one]; rfl
  | 28, _ => rfl
  | 29, _ => rfl
  | 30, _ => rfl
  | 31, _ => show _ = UInt8.ofNat ((_ : Int) / 1 % 256).toNat; rw [Int.ediv_one]; rfl
  | n + 32, h => omega
/-- the sum so far -/
def outZ (st : S8) (i : Nat) : List UInt8 := st.out.take i ++ List.replicate (32 - i) 0
theorem out_len (st : S8) : st.out.length = 32 := rfl
theorem outZ_len (st : S8) (i : Nat) (h : i ≤ 32) : (outZ st i).length = 32 := by unfold outZ; rw [List.length_append, List.length_take, out_len, List.length_replicate]; omega
theorem outZ_zero (st : S8) : bcells (outZ st 0) = z32 := rfl
theorem outZ_all (st : S8) : outZ st 32 = st.out := by unfold outZ; rw [List.take_of_length_le (by rw [out_len]; exact Nat.le_refl _)]; simp
theorem outZ_set (st : S8) (i : Nat) (h : i < 32) (v : Int) (hv : v = st.l.getD (i / 4) 0 / 2 ^ (8 * (3 - i % 4)) % 256) : (bcells (outZ st i)).set i (.int .u8 v) = bcells (outZ st (i + 1)) := by
  have e1 : st.out.take (i + 1) = st.out.take i ++ [st.out.getD i 0] := by
    rw [List.take_succ_eq_append_getElem (by rw [out_len]; exact h)]
    have : i < st.out.length := by rw [out_len]; exact h
    simp [List.getD_eq_getElem?_getD, this]
  have e2 : List.replicate (32 - i) (0 : UInt8) = 0 :: List.replicate (32 - (i + 1)) 0 := by rw [show 32 - i = (32 - (i + 1)) + 1 by omega]; rfl
  have e3 : ((st.out.getD i 0).toNat : Int) = v := by rw [out_get st i h, by_num, hv]
  have e4 : (st.out.take i).length = i := by rw [List.length_take, out_len]; omega
  unfold outZ
  rw [e1, e2, ← e3]
  unfold bcells
  rw [List.map_append, List.map_append, List.map_append, List.set_append_right _ _ (by rw [List.length_map, e4]; exact Nat.le_refl _), List.length_map, e4, Nat.sub_self]
  simp
theorem outZ_cell (st : S8) (i : Nat) (h : i < 32) : ∃ v, (bcells (outZ st i))[i]? = some v := ⟨_, List.getElem?_eq_getElem (by rw [bcells, List.length_map, outZ_len st i (by omega)]; exact h)⟩
set_option maxRecDepth 100000 in
set_option maxHeartbeats 2000000 in
theorem rsum_any (s : ByteArray) (w : World) (hs : s.size ≤ 140737488354000) :
    Calls Tryz.prog 109 #[.string s] w fun e w' => e = .returned (.agg (bcells (sha s.data.toList)).toArray) ∧ Only (fun _ => False) w w' := by
  have HS := Lib.hid hs
  clear hs
  go_enter Tryz.func109, Tryz.ntmps109
  go_wp2_with (first | (with_reducible refine wpl_alloc_all (o := ⟨some 2, _, _, _, _, _⟩) rfl _ rfl _ (zero32 _) ?_; intro w1 h1 o1 s1; have H1 := Lib.hid h1; have O1 := Lib.hid o1; have S1 := Lib.hid s1; clear h1 o1 s1) |
    (with_reducible refine wpl_alloc_all (o := ⟨some 3, _, _, _, _, _⟩) rfl _ rfl _ (zero8 _) ?_; intro w2 h2 o2 s2; have H2 := Lib.hid h2; have O2 := Lib.hid o2; have S2 := Lib.hid s2; clear h2 o2 s2) |
    (refine wpl_store_all rfl 161 (.tmp 3) (.tmp 8) rfl w1.heap.size 161 ivZ (u32s iv.l) rfl rfl H2.out (by decide) (infoS iv) (u32s_one iv.l) ?_; intro w3 h3 o3 s3; have H3 := Lib.hid h3; have O3 := Lib.hid o3; clear h3 o3 s3))
  have R3 : Hid (Rs w w3 iv) := by
    have e1 : w1.heap.size = w.heap.size + 1 := S1.out
    have l1 := H1.out.lt
    have h3 := H3.out
    have o3 := O3.out
    rw [e1] at h3 o3
    have o12 := O1.out.trans O2.out (fun _ _ h => h)
    exact Lib.hid ⟨o12.trans (o3.mono (T := fun i => w.heap.size ≤ i) (fun i _ e => by omega)) (fun i hi e => by omega), (H1.out.only O2.out (fun h => h)).only o3 (by omega), h3⟩
  have e1 : w1.heap.size = w.heap.size + 1 := S1.out
  rw [e1]
  clear e1 H1 O1 S1 H2 O2 S2 H3 O3
  refine (rpadded_any s w3 HS.out).mono ?_
  rintro e w4 ⟨t, rfl, ht, o4⟩
  have R4 := Lib.hid (R3.out.keep o4)
  obtain ⟨K, hK⟩ := padded_len s.data.toList
  have hz : t.size = 64 * K := by rw [← hK, ← ht]; exact Array.length_toList.symm
  have hKb : 64 * K ≤ 140737488355328 := by
    have : (padded s.data.toList).length = s.data.toList.length + (1 + padTo s.data.toList.length) + 8 := by simp [padded, by4]; omega
    have e2 : s.data.toList.length = s.size := Array.length_toList
    have := HS.out
    have : padTo s.data.toList.length < 64 := by unfold padTo; omega
    omega
  have SH : Hid (sha s.data.toList = (blocks t.data.toList K).out) := Lib.hid (by unfold sha; rw [hK, ht, Nat.mul_div_cancel_left _ (by omega)])
  clear ht hK o4 R3 HS
  go_wp2_with fail
  go_loopw [5] (fun iv wr => ∃ k : Nat, k ≤ K ∧ iv = .int .i64 (64 * (k : Int)) ∧ Hid (Rs w wr (blocks t.data.toList k))) (fun iv _ => 64 * K - (intOf iv).toNat)
  case atStart => exact ⟨0, Nat.zero_le _, rfl, R4⟩
  case round =>
    clear R4
    obtain ⟨k, hk, rfl, hR⟩ := hrel
    have i0 : (t.size : Int) = 64 * (K : Int) := by omega
    by_cases hlt : k < K
    · have BN : Hid (blocks t.data.toList (k + 1) = addB (blocks t.data.toList k) (t.extract (64 * k) (64 * k + 64)).data.toList) := Lib.hid (by rw [extract_chunk]; rfl)
      have BZ : Hid ((t.extract (64 * k) (64 * k + 64)).size = 64) := Lib.hid (by rw [ByteArray.size_extract]; omega)
      generalize blocks t.data.toList k = st at *
      obtain ⟨a, b, c, d, e, f, g, h⟩ := st
      obtain ⟨X, F, FM⟩ := fam wr
      have NE := FM.ne
      have s0 := FM.cell (hR.out.st.cell (i := 0) rfl)
      have s1 := FM.cell (hR.out.st.cell (i := 1) rfl)
      have s2 := FM.cell (hR.out.st.cell (i := 2) rfl)
      have s3 := FM.cell (hR.out.st.cell (i := 3) rfl)
      have s4 := FM.cell (hR.out.st.cell (i := 4) rfl)
      have s5 := FM.cell (hR.out.st.cell (i := 5) rfl)
      have s6 := FM.cell (hR.out.st.cell (i := 6) rfl)
      have s7 := FM.cell (hR.out.st.cell (i := 7) rfl)
      have HI0 := Lib.hid i0
      have i1 : (64 : Int) * (k : Int) + 64 ≤ (t.size : Int) := by omega
      have i2 : (64 : Int) * (k : Int) < (t.size : Int) := by omega
      have v1 : IntKind.i64.wrap (64 * (k : Int) + 64) = 64 * (k : Int) + 64 := IntWalk.i64_in _ (by omega)
      have n1 : (0 : Int) ≤ 64 * (k : Int) := by omega
      have n2 : (64 : Int) * (k : Int) ≤ 64 * (k : Int) + 64 := by omega
      have t1 : (64 * (k : Int)).toNat = 64 * k := by omega
      have t2 : (64 * (k : Int) + 64).toNat = 64 * k + 64 := by omega
      have n3 : (0 : Int) ≤ 64 * (k : Int) + 64 := by omega
      have hsz : (t.size : Int) ≤ 9223372036854775807 := by omega
      clear i0 hz hKb
      go_wp2_with fail
      refine FM.tail 7 (by kernel_rfl) (by kernel_rfl) ?_
      simp only [List.take_succ_cons, List.take_zero, List.drop_succ_cons, List.drop_zero]
      repeat (first | go_big_quiet_step ((go_at_call 137; exact FM.call (rblock_any ⟨a, b, c, d, e, f, g, h⟩ _ _ BZ.out))) | quiet_step (fail))
      refine wpQuiet_nil ?_
      intro x
      have RX := Lib.hid (hR.out.keep (FM.own x))
      clear s0 s1 s2 s3 s4 s5 s6 s7
      generalize F x = w1 at RX ⊢
      obtain ⟨o, ho⟩ : ∃ o, o = addB ⟨a, b, c, d, e, f, g, h⟩ (t.extract (64 * k) (64 * k + 64)).data.toList := ⟨_, rfl⟩
      have BO : Hid (blocks t.data.toList (k + 1) = o) := Lib.hid (by rw [BN.out, ho])
      rw [← ho]
      have HI := Lib.hid (infoS8 o)
      have H8 := Lib.hid (u32s_one o.l)
      have L8 := Lib.hid (show (u32s (S8.mk a b c d e f g h).l).length = (u32s o.l).length from rfl)
      clear ho BN
      go_wp2_with (refine wpl_store_all rfl 161 (.tmp 3) (.tmp 23) rfl (w.heap.size + 1) 161 _ (u32s o.l) rfl rfl RX.out.st L8.out HI.out H8.out ?_; intro w3 h3 o3 z3; have H3 := Lib.hid h3; have O3 := Lib.hid o3; clear h3 o3 z3)
      go_roundw
      case rel => exact ⟨k + 1, by omega, by congr 1 <;> omega, Lib.hid (by rw [BO.out]; exact RX.out.put O3.out H3.out)⟩
      case measure => simp [intOf]; omega
    · obtain rfl : k = K := by omega
      have HO : Hid (sha s.data.toList = (blocks t.data.toList k).out) := SH
      generalize blocks t.data.toList k = st at *
      clear SH hlt hk hKb hz
      go_wp2_with (with_reducible refine wpl_alloc_all (o := ⟨some 6, _, _, _, _, _⟩) rfl _ rfl _ (zero32 _) ?_; intro w1 h1 o1 s1; have H1 := Lib.hid h1; have R1 := Lib.hid (hR.out.keep o1); clear h1 o1 s1)
      have HV : Hid (w.heap.size + 1 < wr.heap.size) := Lib.hid hR.out.st.lt
      clear hR
      generalize wr.heap.size = V at H1 HV ⊢
      go_loopw [7] (fun iv wx => ∃ i : Nat, i ≤ 32 ∧ iv = .int .i64 i ∧ Hid (Rs w wx st) ∧ Hid (At wx V 138 (bcells (outZ st i)))) (fun iv _ => 32 - (intOf iv).toNat)
      case atStart => exact ⟨0, by omega, rfl, R1, Lib.hid (by rw [outZ_zero]; exact H1.out)⟩
      case round =>
        clear R1 H1
        obtain ⟨i, hi, rfl, hR, hA⟩ := hrel
        by_cases hlt : i < 32
        · obtain ⟨v0, hv0⟩ := outZ_cell st i hlt
          have cz := hA.out.cell hv0
          have fz := hA.out.frozen i
          have cs := (hR.out.st.cell (i := i / 4) (v := .int .u32 (st.l.getD (i / 4) 0)) (by
            have : i / 4 < st.l.length := by show i / 4 < 8; omega
            simp [u32s, List.getD_eq_getElem?_getD, this]))
          have NX := fun v hv => Lib.hid (outZ_set st i hlt v hv)
          generalize st.l.getD (i / 4) 0 = y at *
          have i1 : (i : Int) < 32 := by omega
          have i2 : (0 : Int) ≤ (i : Int) := by omega
          have i3 : (i : Int) / 4 < 8 := by omega
          have i4 : (0 : Int) ≤ (i : Int) / 4 := by omega
          have i5 : ((i : Int) / 4).toNat = i / 4 := by omega
          have i6 : (0 : Int) ≤ (i : Int) % 4 := by omega
          have i7 : (i : Int) % 4 ≤ 3 := by omega
          have v1 : IntKind.i64.wrap (3 - (i : Int) % 4) = 3 - (i : Int) % 4 := IntWalk.i64_in _ (by omega)
          have v2 : IntKind.i64.wrap (8 * (3 - (i : Int) % 4)) = 8 * (3 - (i : Int) % 4) := IntWalk.i64_in _ (by omega)
          have n1 : (0 : Int) ≤ 8 * (3 - (i : Int) % 4) := by omega
          have t1 : (8 * (3 - (i : Int) % 4)).toNat = 8 * (3 - i % 4) := by omega
          clear hv0
          go_wp2_with fail
          have OX := Lib.hid (NX _ rfl)
          have hV := HV.out
          go_roundw
          case rel => exact ⟨i + 1, by omega, by go_num, Lib.hid (hR.out.putV hV), Lib.hid (by rw [← (NX _ rfl).out]; exact hA.out.put i _)⟩
          case measure => simp [intOf]; omega
        · obtain rfl : i = 32 := by omega
          have hA' := hA.out
          rw [outZ_all, ← HO.out] at hA'
          have HI := Lib.hid (show (Tryz.prog.info? 138).map (·.size) = some (bcells (sha s.data.toList)).length from info32)
          have H8 := Lib.hid (bcells_one (sha s.data.toList))
          have L8 := Lib.hid (show z32.length = (bcells (sha s.data.toList)).length from rfl)
          obtain ⟨o, ho⟩ : ∃ o, o = bcells (sha s.data.toList) := ⟨_, rfl⟩
          rw [← ho] at hA' HI H8 L8
          have HOO := Lib.hid ho
          have HA := Lib.hid hA'
          clear ho hA' hA HO hi hlt
          go_wp2_with (first | (refine wpl_load_all (o := ⟨some 40, _, _, _, _, _⟩) rfl 138 (.tmp 6) rfl V rfl 138 o _ HA.out Tryz.underlying138 rfl HI.out ?_) |
            (refine wpl_store_all rfl 138 (.tmp 2) (.tmp 40) rfl w.heap.size 138 z32 o rfl rfl hR.out.out L8.out HI.out H8.out ?_; intro w3 h3 o3 z3))
          refine bodyPost_ret (results_all rfl _ w.heap.size rfl _ _ _ h3 Tryz.underlying138 rfl HI.out) rfl ⟨by rw [HOO.out], ?_⟩
          exact hR.out.own.trans (o3.mono (T := fun i => w.heap.size ≤ i) (fun i _ (h : i = w.heap.size) => by omega)) (fun i hi h => by omega)
end Go.Proofs.YtoekhpnapnhefaaGreatDoor

namespace Go.Proofs.YtoekhpnapnhefaaGreatDoor
open Go.RowKit Go.Shelf
set_option linter.unusedVariables false
set_option linter.unusedSimpArgs false

/-- the reference's number of a hash -/
def refA (l : List UInt8) : Nat → Nat
  | 0 => (l.getD 0 0).toNat % 128
  | k + 1 => refA l k * 256 + (l.getD (k + 1) 0).toNat
theorem refA_lt (l : List UInt8) : ∀ k, refA l k < 128 * 256 ^ k
  | 0 => by unfold refA; omega
  | k + 1 => by
    have h := refA_lt l k
    have := (l.getD (k + 1) 0).toNat_lt
    unfold refA
    rw [Nat.pow_succ]
    omega
theorem or_add (a : Nat) (b : UInt8) (h : a < 72057594037927936) : bits .or .u64 (IntKind.u64.wrap ((a : Int) * 256)) (IntKind.u64.wrap (b.toNat : Int)) = ((a * 256 + b.toNat : Nat) : Int) := by
  have hb := b.toNat_lt
  have e1 : IntKind.u64.wrap ((a : Int) * 256) = ((a * 256 : Nat) : Int) := by rw [IntKind.wrap_u64]; omega
  have e2 : IntKind.u64.wrap (b.toNat : Int) = ((b.toNat : Nat) : Int) := by rw [IntKind.wrap_u64]; omega
  rw [e1, e2, u64_or_nat _ _ (by omega) (by omega)]
  have := Nat.two_pow_add_eq_or_of_lt (i := 8) (b := b.toNat) (by omega) a
  rw [show (2 : Nat) ^ 8 = 256 from rfl] at this
  rw [Nat.mul_comm, ← this]
theorem mod256 (a m b : Nat) (hm : 0 < m) (hb : b < 256) : (a * 256 + b) % (m * 256) = a % m * 256 + b := by
  have e := Nat.div_add_mod a m
  have hr := Nat.mod_lt a hm
  generalize a / m = q at *
  generalize a % m = r at *
  subst e
  have : (m * q + r) * 256 + b = m * 256 * q + (r * 256 + b) := by rw [Nat.add_mul, Nat.mul_right_comm]; omega
  rw [this, Nat.mul_add_mod, Nat.mod_eq_of_lt (by omega)]
theorem accN_val (l : List UInt8) : ∀ k, k ≤ 8 → ∃ a : Nat, accN l k = (a : Int) ∧ a < 256 ^ k ∧ (∀ j, k = j + 1 → a % (128 * 256 ^ j) = refA l j)
  | 0, _ => ⟨0, rfl, by decide, fun j h => by omega⟩
  | k + 1, h => by
    obtain ⟨a, h1, h2, h3⟩ := accN_val l k (by omega)
    have hb := (l.getD k 0).toNat_lt
    have h56 : (256 : Nat) ^ k ≤ 256 ^ 7 := Nat.pow_le_pow_right (by decide) (by omega)
    have h56' : (256 : Nat) ^ 7 = 72057594037927936 := by decide
    refine ⟨a * 256 + (l.getD k 0).toNat, ?_, by rw [Nat.pow_succ]; omega, fun j hj => ?_⟩
    · rw [accN, h1]; exact or_add a _ (by omega)
    · obtain rfl : k = j := by omega
      cases k with
      | zero =>
        have ha : a = 0 := by rw [Nat.pow_zero] at h2; omega
        subst ha
        show (0 * 256 + (l.getD 0 0).toNat) % (128 * 256 ^ 0) = (l.getD 0 0).toNat % 128
        rw [Nat.zero_mul, Nat.zero_add, Nat.pow_zero, Nat.mul_one]
      | succ k =>
        have h4 := h3 k rfl
        rw [refA, ← h4, Nat.pow_succ, ← Nat.mul_assoc]
        exact mod256 _ _ _ (Nat.mul_pos (by decide) (Nat.pow_pos (by decide))) hb
theorem numH_ref (l : List UInt8) : numH l = (refA l 7 : Int) := by
  obtain ⟨a, h1, h2, h3⟩ := accN_val l 8 (by omega)
  have h4 := h3 7 rfl
  have h5 := refA_lt l 7
  have e1 : (256 : Nat) ^ 8 = 18446744073709551616 := by decide
  have e2 : 128 * (256 : Nat) ^ 7 = 9223372036854775808 := by decide
  rw [e1] at h2
  rw [e2] at h4 h5
  unfold numH
  rw [h1, show (9223372036854775807 : Int) = ((9223372036854775807 : Nat) : Int) from rfl, u64_and_nat _ _ h2 (by omega)]
  have := Nat.and_two_pow_sub_one_eq_mod a 63
  rw [show (2 : Nat) ^ 63 - 1 = 9223372036854775807 from rfl, show (2 : Nat) ^ 63 = 9223372036854775808 from rfl] at this
  rw [this, h4]
  unfold wrap64
  omega
set_option maxRecDepth 100000 in
set_option maxHeartbeats 1000000 in
theorem rnumber_any (l : List UInt8) (hl : l.length = 32) (w : World) :
    Calls Tryz.prog 108 #[.agg (bcells l).toArray] w fun e w' => e = .returned (.int .i64 (numH l)) ∧ Only (fun _ => False) w w' := by
  rw [numH_ref]
  have HL := Lib.hid hl
  clear hl
  have H0 := Lib.hid (At.new w 138 (bcells l))
  have O0 := Lib.hid ((Only.refl (fun _ => False) w).alloc (.cells (bcells l).toArray 138))
  have c0 := H0.out.cell (bcells_cell (k := 0) (by rw [HL.out]; omega))
  have R0 := Lib.hid (show (refA l 0 : Int) = ((l.getD 0 0).toNat : Int) % 128 by unfold refA; simp)
  have b0 := (l.getD 0 0).toNat_lt
  generalize l.getD 0 0 = x0 at *
  go_enter Tryz.func108, Tryz.ntmps108
  go_wp2_with fail
  go_loopw [3, 4] (fun a iv wr => ∃ k : Nat, k ≤ 7 ∧ a = .int .i64 (refA l k) ∧ iv = .int .i64 ((k : Int) + 1) ∧ Hid (At wr w.heap.size 138 (bcells l)) ∧ Hid (Only (fun _ => False) w wr)) (fun _ iv _ => 8 - (intOf iv).toNat)
  case atStart => exact ⟨0, by omega, by rw [R0.out], rfl, H0, O0⟩
  case round =>
    clear H0 O0 R0
    obtain ⟨k, hk, rfl, rfl, hA, hO⟩ := hrel
    by_cases hlt : k < 7
    · have c := hA.out.cell (bcells_cell (k := k + 1) (by rw [HL.out]; omega))
      have NX := Lib.hid (show refA l (k + 1) = refA l k * 256 + (l.getD (k + 1) 0).toNat from rfl)
      have hb := (l.getD (k + 1) 0).toNat_lt
      have hr := refA_lt l k
      have h56 : (256 : Nat) ^ k ≤ 256 ^ 6 := Nat.pow_le_pow_right (by decide) (by omega)
      have h56' : (256 : Nat) ^ 6 = 281474976710656 := by decide
      have hr2 : refA l k < 36028797018963968 := by omega
      generalize l.getD (k + 1) 0 = b at *
      generalize refA l k = x at *
      clear h56 h56' hr
      have i1 : (k : Int) + 1 < 8 := by omega
      have i2 : (x : Int) < 36028797018963968 := by omega
      have i3 : (b.toNat : Int) < 256 := by omega
      go_wp2_with fail
      go_roundw
      case rel => exact ⟨k + 1, by omega, by rw [NX.out]; congr 1 <;> omega, by congr 1 <;> omega, hA, hO⟩
      case measure => simp [intOf]; omega
    · obtain rfl : k = 7 := by omega
      go_wp2_with fail
      go_ret
      exact ⟨rfl, hO.out⟩
set_option maxRecDepth 100000 in
theorem rscalar_any (s : ByteArray) (w : World) (hs : s.size ≤ 140737488353000) :
    Calls Tryz.prog 63 #[.string s] w fun e w' => e = .returned (.int .i64 (scal s.data.toList)) ∧ Only (fun _ => False) w w' := by
  obtain ⟨t, ht⟩ : ∃ t, t = (⟨#[115, 47]⟩ : ByteArray) ++ s := ⟨_, rfl⟩
  have hz : t.size ≤ 140737488354000 := by rw [ht, ByteArray.size_append]; show 2 + s.size ≤ _; omega
  have hl : t.data.toList = [115, 47] ++ s.data.toList := by rw [ht, ByteArray.data_append]; simp
  have SM := Lib.hid (rsum_any t)
  have HZ := Lib.hid hz
  have HT := Lib.hid ht.symm
  have HS := Lib.hid (show scal s.data.toList = numH (sha t.data.toList) % 1152921504606845789 by rw [hl]; rfl)
  have h0 : 0 ≤ numH (sha t.data.toList) := by rw [numH_ref]; omega
  have h1 := (numH_range (sha t.data.toList)).2
  have HN := Lib.hid (rnumber_any (sha t.data.toList) (sha_len _))
  have hneg : ¬ (9223372036854775807 < 2 + s.size) := by omega
  clear hz hl hs ht
  go_enter Tryz.func63, Tryz.ntmps63
  go_wp2_with fail
  rw [HT.out]
  refine (SM.out _ HZ.out).mono ?_
  rintro e w1 ⟨rfl, o1⟩
  generalize sha t.data.toList = h at *
  have O1 := Lib.hid o1
  clear o1
  go_wp2_with fail
  refine (HN.out _).mono ?_
  rintro e w2 ⟨rfl, o2⟩
  have O2 := Lib.hid (O1.out.trans o2 (fun _ _ h => h))
  clear o2
  go_wp2_with fail
  go_ret
  exact ⟨by rw [HS.out]; rfl, O2.out⟩
end Go.Proofs.YtoekhpnapnhefaaGreatDoor
