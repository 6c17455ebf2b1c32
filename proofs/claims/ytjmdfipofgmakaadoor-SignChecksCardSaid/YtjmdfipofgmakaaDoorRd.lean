/-
  sortesref03.Sum: contract.
-/
import Derived.Test.YtjmdfipofgmakaaDoorRc
namespace Go.Proofs.YtjmdfipofgmakaaDoor
open Go.RowKit Go.Shelf
set_option linter.unusedVariables false
set_option linter.unusedSimpArgs false

/-- the worlds of the first loop -/
structure Rs (w W : World) (st : S8) : Prop where
  own : Only (fun _ => False) w W
  out : At W w.heap.size 126 z32
  st : At W (w.heap.size + 1) 140 (u32s st.l)
theorem Rs.keep {w W W' : World} {st : S8} (h : Rs w W st) (o : Only (fun _ => False) W W') : Rs w W' st :=
  ⟨h.own.trans o (fun _ _ h => h), h.out.only o (fun h => h), h.st.only o (fun h => h)⟩
theorem Rs.put {w W W' : World} {st st' : S8} (h : Rs w W st) (o : Only (· = w.heap.size + 1) W W') (h' : At W' (w.heap.size + 1) 140 (u32s st'.l)) : Rs w W' st' :=
  ⟨h.own.trans (o.mono (T := fun i => w.heap.size ≤ i) (fun i _ e => by omega)) (fun i hi e => by omega), h.out.only o (by omega), h'⟩
theorem Rs.putV {w W : World} {st : S8} {V i : Nat} {u : Value} (h : Rs w W st) (hV : w.heap.size + 1 < V) : Rs w (W.setCell ⟨V, i, none⟩ u) st :=
  ⟨h.own.put (p := ⟨V, i, none⟩) (fun hh => by have : V < w.heap.size := hh; omega) _, h.out.far (p := ⟨V, i, none⟩) (by dsimp only; omega) _, h.st.far (p := ⟨V, i, none⟩) (by dsimp only; omega) _⟩
theorem extract_chunk (t : ByteArray) (k : Nat) : (t.extract (64 * k) (64 * k + 64)).data.toList = chunkOf t.data.toList k := by
  unfold chunkOf
  rw [ByteArray.data_extract, Array.toList_extract, List.extract_eq_take_drop]
  congr 1; omega
theorem out_get (st : S8) (i : Nat) (h : i < 32) : st.out.getD i 0 = UInt8.ofNat (st.l.getD (i / 4) 0 / 2 ^ (8 * (3 - i % 4)) % 256).toNat := by
  obtain ⟨a, b, c, d, e, f, g, h'⟩ := st
  match i, h with
  | 0, _ => rfl
  | 1, _ => rfl
  | 2, _ => rfl
  | 3, _ => show _ = UInt8.ofNat ((_ : Int) / 1 % 256).toNat; rw [Int.ediv_one]; rfl
  | 4, _ => rfl
  | 5, _ => rfl
  | 6, _ => rfl
  | 7, _ => show _ = UInt8.ofNat ((_ : Int) / 1 % 256).toNat; rw [Int.ediv_one]; rfl
  | 8, _ => rfl
  | 9, _ => rfl
  | 10, _ => rfl
  | 11, _ => show _ = UInt8.ofNat ((_ : Int) / 1 % 256).toNat; rw [Int.ediv_one]; rfl
  | 12, _ => rfl
  | 13, _ => rfl
  | 14, _ => rfl
  | 15, _ => show _ = UInt8.ofNat ((_ : Int) / 1 % 256).toNat; rw [Int.ediv_one]; rfl
  | 16, _ => rfl
  | 17, _ => rfl
  | 18, _ => rfl
  | 19, _ => show _ = UInt8.ofNat ((_ : Int) / 1 % 256).toNat; rw [Int.ediv_one]; rfl
  | 20, _ => rfl
  | 21, _ => rfl
  | 22, _ => rfl
  | 23, _ => show _ = UInt8.ofNat ((_ : Int) / 1 % 256).toNat; rw [Int.ediv_one]; rfl
  | 24, _ => rfl
  | 25, _ => rfl
  | 26, _ => rfl
  | 27, _ => show _ = UInt8.ofNat ((_ : Int) / 1 % 256).toNat; rw [Int.ediv_one]; rfl
  | 28, _ => rfl
  | 29, _ => rfl
  | 30, _ => rfl
  | 31, _ => show _ = UInt8.ofNat ((_ : Int) / 1 % 256).toNat; rw [Int.ediv_one]; rfl
  | n + 32, h => omega
/-- the sum so far -/
def outZ (st : S8) (i : Nat) : List UInt8 := st.out.take i ++ List.replicate (32 - i) 0
theorem out_len (st : S8) : st.out.length = 32 := rfl
theorem outZ_len (st : S8) (i : Nat) (h : i ≤ 32) : (outZ st i).length = 32 := by unfold outZ; rw [List.length_append, List.length_take, out_len, List.length_replicate]; omega
theorem outZ_zero (st : S8) : bcells (outZ st 0) = z32 := rfl
theorem outZ_all (st : S8) : outZ st 32 = st.out := by unfold outZ; rw [List.take_of_length_le (by rw [out_len]; exact Nat.le_refl _)]; simp
theorem outZ_set (st : S8) (i : Nat) (h : i < 32) (v : Int) (hv : v = st.l.getD (i / 4) 0 / 2 ^ (8 * (3 - i % 4)) % 256) : (bcells (outZ st i)).set i (.int .u8 v) = bcells (outZ st (i + 1)) := by
  have e1 : st.out.take (i + 1) = st.out.take i ++ [st.out.getD i 0] := by
    rw [List.take_succ_eq_append_getElem (by rw [out_len]; exact h)]
    have : i < st.out.length := by rw [out_len]; exact h
    simp [List.getD_eq_getElem?_getD, this]
  have e2 : List.replicate (32 - i) (0 : UInt8) = 0 :: List.replicate (32 - (i + 1)) 0 := by rw [show 32 - i = (32 - (i + 1)) + 1 by omega]; rfl
  have e3 : ((st.out.getD i 0).toNat : Int) = v := by rw [out_get st i h, by_num, hv]
  have e4 : (st.out.take i).length = i := by rw [List.length_take, out_len]; omega
  unfold outZ
  rw [e1, e2, ← e3]
  unfold bcells
  rw [List.map_append, List.map_append, List.map_append, List.set_append_right _ _ (by rw [List.length_map, e4]; exact Nat.le_refl _), List.length_map, e4, Nat.sub_self]
  simp
theorem outZ_cell (st : S8) (i : Nat) (h : i < 32) : ∃ v, (bcells (outZ st i))[i]? = some v := ⟨_, List.getElem?_eq_getElem (by rw [bcells, List.length_map, outZ_len st i (by omega)]; exact h)⟩
set_option maxRecDepth 100000 in
set_option maxHeartbeats 2000000 in
theorem rsum_any (s : ByteArray) (w : World) (hs : s.size ≤ 140737488354000) :
    Calls Tryd.prog 110 #[.string s] w fun e w' => e = .returned (.agg (bcells (sha s.data.toList)).toArray) ∧ Only (fun _ => False) w w' := by
  have HS := Lib.hid hs
  clear hs
  go_enter Tryd.func110, Tryd.ntmps110
  go_wp2_with (first | (with_reducible refine wpl_alloc_all (o := ⟨some 2, _, _, _, _, _⟩) rfl _ rfl _ (zero32 _) ?_; intro w1 h1 o1 s1; have H1 := Lib.hid h1; have O1 := Lib.hid o1; have S1 := Lib.hid s1; clear h1 o1 s1) |
    (with_reducible refine wpl_alloc_all (o := ⟨some 3, _, _, _, _, _⟩) rfl _ rfl _ (zero8 _) ?_; intro w2 h2 o2 s2; have H2 := Lib.hid h2; have O2 := Lib.hid o2; have S2 := Lib.hid s2; clear h2 o2 s2) |
    (refine wpl_store_all rfl 140 (.tmp 3) (.tmp 8) rfl w1.heap.size 140 ivZ (u32s iv.l) rfl rfl H2.out (by decide) (infoS iv) (u32s_one iv.l) ?_; intro w3 h3 o3 s3; have H3 := Lib.hid h3; have O3 := Lib.hid o3; clear h3 o3 s3))
  have R3 : Hid (Rs w w3 iv) := by
    have e1 : w1.heap.size = w.heap.size + 1 := S1.out
    have l1 := H1.out.lt
    have h3 := H3.out
    have o3 := O3.out
    rw [e1] at h3 o3
    have o12 := O1.out.trans O2.out (fun _ _ h => h)
    exact Lib.hid ⟨o12.trans (o3.mono (T := fun i => w.heap.size ≤ i) (fun i _ e => by omega)) (fun i hi e => by omega), (H1.out.only O2.out (fun h => h)).only o3 (by omega), h3⟩
  have e1 : w1.heap.size = w.heap.size + 1 := S1.out
  rw [e1]
  clear e1 H1 O1 S1 H2 O2 S2 H3 O3
  refine (rpadded_any s w3 HS.out).mono ?_
  rintro e w4 ⟨t, rfl, ht, o4⟩
  have R4 := Lib.hid (R3.out.keep o4)
  obtain ⟨K, hK⟩ := padded_len s.data.toList
  have hz : t.size = 64 * K := by rw [← hK, ← ht]; exact Array.length_toList.symm
  have hKb : 64 * K ≤ 140737488355328 := by
    have : (padded s.data.toList).length = s.data.toList.length + (1 + padTo s.data.toList.length) + 8 := by simp [padded, by4]; omega
    have e2 : s.data.toList.length = s.size := Array.length_toList
    have := HS.out
    have : padTo s.data.toList.length < 64 := by unfold padTo; omega
    omega
  have SH : Hid (sha s.data.toList = (blocks t.data.toList K).out) := Lib.hid (by unfold sha; rw [hK, ht, Nat.mul_div_cancel_left _ (by omega)])
  clear ht hK o4 R3 HS
  go_wp2_with fail
  go_loopw [5] (fun iv wr => ∃ k : Nat, k ≤ K ∧ iv = .int .i64 (64 * (k : Int)) ∧ Hid (Rs w wr (blocks t.data.toList k))) (fun iv _ => 64 * K - (intOf iv).toNat)
  case atStart => exact ⟨0, Nat.zero_le _, rfl, R4⟩
  case round =>
    clear R4
    obtain ⟨k, hk, rfl, hR⟩ := hrel
    have i0 : (t.size : Int) = 64 * (K : Int) := by omega
    by_cases hlt : k < K
    · have BN : Hid (blocks t.data.toList (k + 1) = addB (blocks t.data.toList k) (t.extract (64 * k) (64 * k + 64)).data.toList) := Lib.hid (by rw [extract_chunk]; rfl)
      have BZ : Hid ((t.extract (64 * k) (64 * k + 64)).size = 64) := Lib.hid (by rw [ByteArray.size_extract]; omega)
      generalize blocks t.data.toList k = st at *
      obtain ⟨a, b, c, d, e, f, g, h⟩ := st
      obtain ⟨X, F, FM⟩ := fam wr
      have NE := FM.ne
      have s0 := FM.cell (hR.out.st.cell (i := 0) rfl)
      have s1 := FM.cell (hR.out.st.cell (i := 1) rfl)
      have s2 := FM.cell (hR.out.st.cell (i := 2) rfl)
      have s3 := FM.cell (hR.out.st.cell (i := 3) rfl)
      have s4 := FM.cell (hR.out.st.cell (i := 4) rfl)
      have s5 := FM.cell (hR.out.st.cell (i := 5) rfl)
      have s6 := FM.cell (hR.out.st.cell (i := 6) rfl)
      have s7 := FM.cell (hR.out.st.cell (i := 7) rfl)
      have HI0 := Lib.hid i0
      have i1 : (64 : Int) * (k : Int) + 64 ≤ (t.size : Int) := by omega
      have i2 : (64 : Int) * (k : Int) < (t.size : Int) := by omega
      have v1 : IntKind.i64.wrap (64 * (k : Int) + 64) = 64 * (k : Int) + 64 := IntWalk.i64_in _ (by omega)
      have n1 : (0 : Int) ≤ 64 * (k : Int) := by omega
      have n2 : (64 : Int) * (k : Int) ≤ 64 * (k : Int) + 64 := by omega
      have t1 : (64 * (k : Int)).toNat = 64 * k := by omega
      have t2 : (64 * (k : Int) + 64).toNat = 64 * k + 64 := by omega
      have n3 : (0 : Int) ≤ 64 * (k : Int) + 64 := by omega
      have hsz : (t.size : Int) ≤ 9223372036854775807 := by omega
      clear i0 hz hKb
      go_wp2_with fail
      refine FM.tail 7 (by kernel_rfl) (by kernel_rfl) ?_
      simp only [List.take_succ_cons, List.take_zero, List.drop_succ_cons, List.drop_zero]
      repeat (first | go_big_quiet_step ((go_at_call 127; exact FM.call (rblock_any ⟨a, b, c, d, e, f, g, h⟩ _ _ BZ.out))) | quiet_step (fail))
      refine wpQuiet_nil ?_
      intro x
      have RX := Lib.hid (hR.out.keep (FM.own x))
      clear s0 s1 s2 s3 s4 s5 s6 s7
      generalize F x = w1 at RX ⊢
      obtain ⟨o, ho⟩ : ∃ o, o = addB ⟨a, b, c, d, e, f, g, h⟩ (t.extract (64 * k) (64 * k + 64)).data.toList := ⟨_, rfl⟩
      have BO : Hid (blocks t.data.toList (k + 1) = o) := Lib.hid (by rw [BN.out, ho])
      rw [← ho]
      have HI := Lib.hid (infoS8 o)
      have H8 := Lib.hid (u32s_one o.l)
      have L8 := Lib.hid (show (u32s (S8.mk a b c d e f g h).l).length = (u32s o.l).length from rfl)
      clear ho BN
      go_wp2_with (refine wpl_store_all rfl 140 (.tmp 3) (.tmp 23) rfl (w.heap.size + 1) 140 _ (u32s o.l) rfl rfl RX.out.st L8.out HI.out H8.out ?_; intro w3 h3 o3 z3; have H3 := Lib.hid h3; have O3 := Lib.hid o3; clear h3 o3 z3)
      go_roundw
      case rel => exact ⟨k + 1, by omega, by congr 1 <;> omega, Lib.hid (by rw [BO.out]; exact RX.out.put O3.out H3.out)⟩
      case measure => simp [intOf]; omega
    · obtain rfl : k = K := by omega
      have HO : Hid (sha s.data.toList = (blocks t.data.toList k).out) := SH
      generalize blocks t.data.toList k = st at *
      clear SH hlt hk hKb hz
      go_wp2_with (with_reducible refine wpl_alloc_all (o := ⟨some 6, _, _, _, _, _⟩) rfl _ rfl _ (zero32 _) ?_; intro w1 h1 o1 s1; have H1 := Lib.hid h1; have R1 := Lib.hid (hR.out.keep o1); clear h1 o1 s1)
      have HV : Hid (w.heap.size + 1 < wr.heap.size) := Lib.hid hR.out.st.lt
      clear hR
      generalize wr.heap.size = V at H1 HV ⊢
      go_loopw [7] (fun iv wx => ∃ i : Nat, i ≤ 32 ∧ iv = .int .i64 i ∧ Hid (Rs w wx st) ∧ Hid (At wx V 126 (bcells (outZ st i)))) (fun iv _ => 32 - (intOf iv).toNat)
      case atStart => exact ⟨0, by omega, rfl, R1, Lib.hid (by rw [outZ_zero]; exact H1.out)⟩
      case round =>
        clear R1 H1
        obtain ⟨i, hi, rfl, hR, hA⟩ := hrel
        by_cases hlt : i < 32
        · obtain ⟨v0, hv0⟩ := outZ_cell st i hlt
          have cz := hA.out.cell hv0
          have fz := hA.out.frozen i
          have cs := (hR.out.st.cell (i := i / 4) (v := .int .u32 (st.l.getD (i / 4) 0)) (by
            have : i / 4 < st.l.length := by show i / 4 < 8; omega
            simp [u32s, List.getD_eq_getElem?_getD, this]))
          have NX := fun v hv => Lib.hid (outZ_set st i hlt v hv)
          generalize st.l.getD (i / 4) 0 = y at *
          have i1 : (i : Int) < 32 := by omega
          have i2 : (0 : Int) ≤ (i : Int) := by omega
          have i3 : (i : Int) / 4 < 8 := by omega
          have i4 : (0 : Int) ≤ (i : Int) / 4 := by omega
          have i5 : ((i : Int) / 4).toNat = i / 4 := by omega
          have i6 : (0 : Int) ≤ (i : Int) % 4 := by omega
          have i7 : (i : Int) % 4 ≤ 3 := by omega
          have v1 : IntKind.i64.wrap (3 - (i : Int) % 4) = 3 - (i : Int) % 4 := IntWalk.i64_in _ (by omega)
          have v2 : IntKind.i64.wrap (8 * (3 - (i : Int) % 4)) = 8 * (3 - (i : Int) % 4) := IntWalk.i64_in _ (by omega)
          have n1 : (0 : Int) ≤ 8 * (3 - (i : Int) % 4) := by omega
          have t1 : (8 * (3 - (i : Int) % 4)).toNat = 8 * (3 - i % 4) := by omega
          clear hv0
          go_wp2_with fail
          have OX := Lib.hid (NX _ rfl)
          have hV := HV.out
          go_roundw
          case rel => exact ⟨i + 1, by omega, by go_num, Lib.hid (hR.out.putV hV), Lib.hid (by rw [← (NX _ rfl).out]; exact hA.out.put i _)⟩
          case measure => simp [intOf]; omega
        · obtain rfl : i = 32 := by omega
          have hA' := hA.out
          rw [outZ_all, ← HO.out] at hA'
          have HI := Lib.hid (show (Tryd.prog.info? 126).map (·.size) = some (bcells (sha s.data.toList)).length from info32)
          have H8 := Lib.hid (bcells_one (sha s.data.toList))
          have L8 := Lib.hid (show z32.length = (bcells (sha s.data.toList)).length from rfl)
          obtain ⟨o, ho⟩ : ∃ o, o = bcells (sha s.data.toList) := ⟨_, rfl⟩
          rw [← ho] at hA' HI H8 L8
          have HOO := Lib.hid ho
          have HA := Lib.hid hA'
          clear ho hA' hA HO hi hlt
          go_wp2_with (first | (refine wpl_load_all (o := ⟨some 40, _, _, _, _, _⟩) rfl 126 (.tmp 6) rfl V rfl 126 o _ HA.out Tryd.underlying126 rfl HI.out ?_) |
            (refine wpl_store_all rfl 126 (.tmp 2) (.tmp 40) rfl w.heap.size 126 z32 o rfl rfl hR.out.out L8.out HI.out H8.out ?_; intro w3 h3 o3 z3))
          refine bodyPost_ret (results_all rfl _ w.heap.size rfl _ _ _ h3 Tryd.underlying126 rfl HI.out) rfl ⟨by rw [HOO.out], ?_⟩
          exact hR.out.own.trans (o3.mono (T := fun i => w.heap.size ≤ i) (fun i _ (h : i = w.heap.size) => by omega)) (fun i hi h => by omega)
end Go.Proofs.YtjmdfipofgmakaaDoor
