/-
  SHA-256: the schedule of a block: contract.
-/
import Derived.Test.YtjmdfipofgmakaaDoorSi
namespace Go.Proofs.YtjmdfipofgmakaaDoor
open Go.RowKit
set_option linter.unusedVariables false
set_option linter.unusedSimpArgs false

/-- the words so far, with zeros behind them -/
def schedZ (b : List UInt8) (i : Nat) : List Int := sched b i ++ List.replicate (64 - i) 0
theorem sched_len (b : List UInt8) : ∀ i, (sched b i).length = i
  | 0 => rfl
  | i + 1 => by simp [sched, sched_len b i]
theorem schedZ_len (b : List UInt8) (i : Nat) (h : i ≤ 64) : (schedZ b i).length = 64 := by simp [schedZ, sched_len]; omega
theorem schedZ_get (b : List UInt8) (i j : Nat) (hi : i ≤ 64) (h : j < i) : (u32s (schedZ b i))[j]? = some (.int .u32 ((sched b i).getD j 0)) := by
  have : j < (sched b i).length := by rw [sched_len]; exact h
  unfold u32s schedZ
  rw [List.map_append, List.getElem?_append_left (by simpa using this)]
  simp [List.getD_eq_getElem?_getD, this]
theorem schedZ_cell (b : List UInt8) (i : Nat) (h : i < 64) : (u32s (schedZ b i))[i]? = some (.int .u32 0) := by
  unfold u32s schedZ
  rw [List.map_append, List.getElem?_append_right (by rw [List.length_map, sched_len]; exact Nat.le_refl _), List.length_map, sched_len, Nat.sub_self, List.map_replicate, List.getElem?_replicate_of_lt (by omega)]
theorem schedZ_set (b : List UInt8) (i : Nat) (h : i < 64) (v : Int) (hv : v = if i < 16 then be32 b i else nextW (sched b i) i) : (u32s (schedZ b i)).set i (.int .u32 v) = u32s (schedZ b (i + 1)) := by
  subst hv
  have h1 : (sched b i).length = i := sched_len b i
  have h2 : List.replicate (64 - i) (0 : Int) = 0 :: List.replicate (64 - (i + 1)) 0 := by rw [show 64 - i = (64 - (i + 1)) + 1 by omega]; rfl
  unfold u32s schedZ
  rw [h2, sched]
  simp only [List.map_append, List.map_cons, List.append_assoc, List.map_nil, List.cons_append, List.nil_append]
  rw [List.set_append_right _ _ (by simp [h1])]
  simp [h1]
theorem schedZ_zero (b : List UInt8) : u32s (schedZ b 0) = zeros := rfl
theorem schedZ_all (b : List UInt8) : schedZ b 64 = sched b 64 := by simp [schedZ]

def wr32 (x16 x15 x7 x2 : Int) : Int := wr (wr (wr (x16 + bx (bx (rr x15 7) (rr x15 18)) (x15 / 8)) + x7) + bx (bx (rr x2 17) (rr x2 19)) (x2 / 1024))
theorem wr32_eq (x16 x15 x7 x2 : Int) : wr32 x16 x15 x7 x2 = (x16 + bits BinOp.xor IntKind.u32 (bits BinOp.xor IntKind.u32 (rr x15 7) (rr x15 18)) (x15 / 8) + x7 + bits BinOp.xor IntKind.u32 (bits BinOp.xor IntKind.u32 (rr x2 17) (rr x2 19)) (x2 / 1024)) % 4294967296 := by
  unfold wr32 wr bx
  simp only [IntKind.wrap_u32']
  generalize bits BinOp.xor IntKind.u32 (bits BinOp.xor IntKind.u32 (rr x15 7) (rr x15 18)) (x15 / 8) = a
  generalize bits BinOp.xor IntKind.u32 (bits BinOp.xor IntKind.u32 (rr x2 17) (rr x2 19)) (x2 / 1024) = b
  omega
theorem infoSched (B : List UInt8) : (Tryd.prog.info? 165).map (·.size) = some (u32s (sched B 64)).length := by rw [u32s, List.length_map, sched_len]; exact info64
theorem lenSched (B : List UInt8) : zeros.length = (u32s (sched B 64)).length := by rw [u32s, List.length_map, sched_len]; rfl
theorem bytes_get {w : World} {g o : Nat} {l : List UInt8} (h : BytesAt w g o l) (j : Nat) (hj : j < l.length) : w.cell? ⟨g, o + j, none⟩ = some (.int .u8 ((l.getD j 0).toNat : Int)) :=
  h j _ (by simp [List.getD_eq_getElem?_getD, hj])
theorem BytesAt.only {w w' : World} {g o : Nat} {l : List UInt8} {S : Nat → Prop} (h : BytesAt w g o l) (ho : Only S w w') (hg : ¬ S g) : BytesAt w' g o l := fun j b hj => ho.cell (h j b hj) hg

set_option maxRecDepth 100000 in
set_option maxHeartbeats 1000000 in
theorem schedule_any (g o n c : Nat) (B : List UInt8) (w : World) (hn : 64 ≤ n) (hnc : n ≤ c) (hc : (c : Int) ≤ 9223372036854775807) (hB : B.length = 64) (hb : BytesAt w g o B) :
    Calls Tryd.prog 142 #[.slice (some ⟨g, o, none⟩) n c] w fun e w' => e = .returned (.agg (u32s (sched B 64)).toArray) ∧ Only (fun _ => False) w w' := by
  have H1 := Lib.hid (u32s_one (sched B 64))
  have HB := Lib.hid hb
  have HL := Lib.hid hB
  have hn1 : (64 : Int) ≤ (n : Int) := by omega
  have hn2 : (n : Int) ≤ (c : Int) := by omega
  clear hB hb
  go_enter Tryd.func142, Tryd.ntmps142
  go_wp2_with (first | (with_reducible refine wpl_alloc_all rfl _ rfl _ (zero64 _) ?_; intro w1 h1 o1 s1; have H9 := Lib.hid h1; have O9 := Lib.hid o1; clear h1 o1))
  rename_i wa sa ha oa kk aa
  have G1 := Lib.hid ((ha.out.only O9.out (fun h => h)))
  have G2 := Lib.hid (show At w1 (w.heap.size + 1) 165 zeros by have := H9.out; rw [sa] at this; exact this)
  have G3 := Lib.hid (oa.out.trans O9.out (fun _ _ h => h))
  clear ha oa H9 O9
  go_loopw [9] (fun iv wr => ∃ i : Nat, i ≤ 64 ∧ iv = .int .i64 i ∧ At wr w.heap.size 165 zeros ∧ At wr (w.heap.size + 1) 165 (u32s (schedZ B i)) ∧ Only (fun _ => False) w wr) (fun iv _ => 64 - (intOf iv).toNat)
  case atStart => exact ⟨0, by omega, rfl, G1.out, by rw [schedZ_zero]; exact G2.out, G3.out⟩
  case round =>
    clear G1 G2 G3 s1 sa
    obtain ⟨i, hi, rfl, h1, h2, ho⟩ := hrel
    have R1 := Lib.hid h1
    have R2 := Lib.hid h2
    have RO := Lib.hid ho
    by_cases hlt : i < 64
    · have f := h2.frozen i
      have cz := h2.cell (schedZ_cell B i hlt)
      have hgs := World.block_lt_of_cell? _ _ (bytes_get HB.out 0 (by rw [HL.out]; omega))
      by_cases h16 : i < 16
      · have hbw := HB.out.only ho (fun h => h)
        have b0 := bytes_get hbw (4 * i) (by rw [HL.out]; omega)
        have b1 := bytes_get hbw (4 * i + 1) (by rw [HL.out]; omega)
        have b2 := bytes_get hbw (4 * i + 2) (by rw [HL.out]; omega)
        have b3 := bytes_get hbw (4 * i + 3) (by rw [HL.out]; omega)
        have WD := Lib.hid (word_any g (o + 4 * i) (n - 4 * i) (c - 4 * i) _ _ _ _ wr (by omega) b0 b1 b2 b3)
        clear h1 h2 ho hbw b0 b1 b2 b3
        have j1 : (4 : Int) * (i : Int) ≤ (n : Int) := by omega
        have j2 : (4 : Int) * (i : Int) < (c : Int) := by omega
        have j3 : 4 * i < c := by omega
        have j4 : 4 * i ≤ n := by omega
        go_wp2_with fail
        refine WD.out.mono ?_
        rintro e w2 ⟨rfl, k, rfl⟩
        have S1 := Lib.hid (schedZ_set B i hlt (be32 B i) (by rw [if_pos h16]))
        clear WD
        go_wp2_with fail
        go_roundw
        case rel => exact ⟨i + 1, by omega, by go_num, (R1.out.drewN k).far (p := ⟨w.heap.size + 1, i, none⟩) (by dsimp only; omega) _, by rw [← S1.out]; exact (R2.out.drewN k).put i _, (RO.out.drewN k).put (p := ⟨w.heap.size + 1, i, none⟩) (fun h => absurd h (by dsimp only; omega)) _⟩
        case measure => simp [intOf]; omega
      · have c16 := h2.cell (schedZ_get B i (i - 16) hi (by omega))
        have c15 := h2.cell (schedZ_get B i (i - 15) hi (by omega))
        have c7 := h2.cell (schedZ_get B i (i - 7) hi (by omega))
        have c2 := h2.cell (schedZ_get B i (i - 2) hi (by omega))
        have S1 := Lib.hid (schedZ_set B i hlt (nextW (sched B i) i) (by rw [if_neg h16]))
        have NW := Lib.hid (show nextW (sched B i) i = wr32 ((sched B i).getD (i - 16) 0) ((sched B i).getD (i - 15) 0) ((sched B i).getD (i - 7) 0) ((sched B i).getD (i - 2) 0) from rfl)
        clear h1 h2 ho
        generalize (sched B i).getD (i - 16) 0 = x16 at *
        generalize (sched B i).getD (i - 15) 0 = x15 at *
        generalize (sched B i).getD (i - 7) 0 = x7 at *
        generalize (sched B i).getD (i - 2) 0 = x2 at *
        have j1 : (15 : Int) ≤ (i : Int) := by omega
        have j2 : (2 : Int) ≤ (i : Int) := by omega
        have j3 : (16 : Int) ≤ (i : Int) := by omega
        have j4 : (7 : Int) ≤ (i : Int) := by omega
        have j5 : (i : Int) < 64 := by omega
        go_wp2_with fail
        go_quiet (fail)
        go_wp2_with fail
        refine (rot_any x15 _ 7 _ (by omega) (by omega) rfl).mono ?_
        rintro e w' ⟨rfl, rfl⟩
        go_wp2_with fail
        refine (rot_any x15 _ 18 _ (by omega) (by omega) rfl).mono ?_
        rintro e w' ⟨rfl, rfl⟩
        go_wp2_with fail
        refine (rot_any x2 _ 17 _ (by omega) (by omega) rfl).mono ?_
        rintro e w' ⟨rfl, rfl⟩
        go_wp2_with fail
        refine (rot_any x2 _ 19 _ (by omega) (by omega) rfl).mono ?_
        rintro e w' ⟨rfl, rfl⟩
        go_wp2_with fail
        go_region
        go_wp2_with fail
        go_roundw
        rw [← wr32_eq, ← NW.out]
        case rel => exact ⟨i + 1, by omega, by go_num, (R1.out.drewN _).far (p := ⟨w.heap.size + 1, i, none⟩) (by dsimp only; omega) _, by rw [← S1.out]; exact (R2.out.drewN _).put i _, (RO.out.drewN _).put (p := ⟨w.heap.size + 1, i, none⟩) (fun h => absurd h (by dsimp only; omega)) _⟩
        case measure => simp [intOf]; omega
    · obtain rfl : i = 64 := by omega
      rw [schedZ_all] at h2
      clear R1 R2
      go_wp2_with (first | (refine wpl_load_all rfl 165 (.tmp 3) rfl (w.heap.size + 1) rfl 165 (u32s (sched B 64)) _ h2 Tryd.underlying165 rfl (infoSched B) ?_) |
        (refine wpl_store_all rfl 165 (.tmp 2) (.tmp 61) rfl w.heap.size 165 zeros (u32s (sched B 64)) rfl rfl h1 (lenSched B) (infoSched B) H1.out ?_; intro w3 h3 o3 s3))
      refine bodyPost_ret (results_all rfl _ w.heap.size rfl _ _ _ h3 Tryd.underlying165 rfl (infoSched B)) rfl ⟨rfl, ?_⟩
      exact RO.out.trans (o3.mono (T := fun i => w.heap.size ≤ i) (fun i _ h => by omega)) (fun i hi h => by omega)
end Go.Proofs.YtjmdfipofgmakaaDoor
