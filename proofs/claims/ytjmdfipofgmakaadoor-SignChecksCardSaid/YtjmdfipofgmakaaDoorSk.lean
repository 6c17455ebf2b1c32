/-
  SHA-256: a block is added to a state: contract.
-/
import Derived.Test.YtjmdfipofgmakaaDoorSj
namespace Go.Proofs.YtjmdfipofgmakaaDoor
open Go.RowKit
set_option linter.unusedVariables false
set_option linter.unusedSimpArgs false

theorem rounds_cell (j : Nat) (h : j < 64) : (u32s kTab)[j]? = some (.int .u32 (kTab.getD j 0)) := by
  have : j < kTab.length := h
  simp [u32s, List.getD_eq_getElem?_getD, this]
theorem sched_cell (B : List UInt8) (j : Nat) (h : j < 64) : (u32s (sched B 64))[j]? = some (.int .u32 ((sched B 64).getD j 0)) := by
  have : j < (sched B 64).length := by rw [sched_len]; exact h
  simp [u32s, List.getD_eq_getElem?_getD, this]
theorem infoK : (Tryd.prog.info? 165).map (·.size) = some (u32s kTab).length := info64
theorem lenK : zeros.length = (u32s kTab).length := by decide
def S8.l (s : S8) : List Int := [s.a, s.b, s.c, s.d, s.e, s.f, s.g, s.h]
def Rnd (W : List Int) (s : S8) (i : Nat) (r : S8) : Prop := r = rounds8 W s i
theorem rnd_next {W : List Int} {s r : S8} {i : Nat} (h : Rnd W s i r) : Rnd W s (i + 1) (round8 (kTab.getD i 0) (W.getD i 0) r) := by
  unfold Rnd at *; subst h; rfl

theorem round8_eq (k w a b c d e f g h : Int) : round8 k w ⟨a, b, c, d, e, f, g, h⟩ = ⟨((h + bx (bx (rr e 6) (rr e 11)) (rr e 25) + bits BinOp.xor IntKind.u32 (bits BinOp.and IntKind.u32 e f) (bits BinOp.and IntKind.u32 (bits BinOp.xor IntKind.u32 IntKind.u32.max e) g) + k + w) % 4294967296 +
      (bx (bx (rr a 2) (rr a 13)) (rr a 22) + bits BinOp.xor IntKind.u32 (bits BinOp.xor IntKind.u32 (bits BinOp.and IntKind.u32 a b) (bits BinOp.and IntKind.u32 a c)) (bits BinOp.and IntKind.u32 b c)) % 4294967296) % 4294967296, a, b, c,
    (d + (h + bx (bx (rr e 6) (rr e 11)) (rr e 25) + bits BinOp.xor IntKind.u32 (bits BinOp.and IntKind.u32 e f) (bits BinOp.and IntKind.u32 (bits BinOp.xor IntKind.u32 IntKind.u32.max e) g) + k + w) % 4294967296) % 4294967296, e, f, g⟩ := by
  have hm : IntKind.u32.max = 4294967295 := by decide
  simp only [round8, wr, IntKind.wrap_u32', bx, bn, hm, S8.mk.injEq, true_and, and_true]
  generalize bits BinOp.xor IntKind.u32 (bits BinOp.xor IntKind.u32 (rr e 6) (rr e 11)) (rr e 25) = x1
  generalize bits BinOp.xor IntKind.u32 (bits BinOp.and IntKind.u32 e f) (bits BinOp.and IntKind.u32 (bits BinOp.xor IntKind.u32 4294967295 e) g) = x2
  generalize bits BinOp.xor IntKind.u32 (bits BinOp.xor IntKind.u32 (rr a 2) (rr a 13)) (rr a 22) = x3
  generalize bits BinOp.xor IntKind.u32 (bits BinOp.xor IntKind.u32 (bits BinOp.and IntKind.u32 a b) (bits BinOp.and IntKind.u32 a c)) (bits BinOp.and IntKind.u32 b c) = x4
  constructor <;> omega

/-- the state, its first i words summed -/
def addZ (s v : List Int) : Nat → List Int
  | 0 => s
  | i + 1 => (addZ s v i).set i ((s.getD i 0 + v.getD i 0) % 4294967296)
theorem addZ_len (s v : List Int) : ∀ i, (addZ s v i).length = s.length
  | 0 => rfl
  | i + 1 => by simp [addZ, addZ_len s v i]
theorem addZ_get (s v : List Int) (j : Nat) : ∀ i, i ≤ j → (addZ s v i).getD j 0 = s.getD j 0
  | 0, _ => rfl
  | i + 1, h => by
    have ih := addZ_get s v j i (by omega)
    rw [List.getD_eq_getElem?_getD] at ih ⊢
    rw [addZ, List.getElem?_set_ne (by omega)]
    exact ih
theorem addZ_cell (s v : List Int) (i : Nat) (h : i < s.length) : (u32s (addZ s v i))[i]? = some (.int .u32 (s.getD i 0)) := by
  have hl : i < (addZ s v i).length := by rw [addZ_len]; exact h
  have := addZ_get s v i i (Nat.le_refl _)
  rw [List.getD_eq_getElem?_getD, List.getElem?_eq_getElem hl] at this
  simp only [u32s, List.getElem?_map, List.getElem?_eq_getElem hl, Option.map_some]
  rw [← this]; rfl
theorem addZ_set (s v : List Int) (i : Nat) : (u32s (addZ s v i)).set i (.int .u32 ((s.getD i 0 + v.getD i 0) % 4294967296)) = u32s (addZ s v (i + 1)) := by
  simp [u32s, addZ, List.map_set]
def sum8 (s v : S8) : S8 := ⟨wr (s.a + v.a), wr (s.b + v.b), wr (s.c + v.c), wr (s.d + v.d), wr (s.e + v.e), wr (s.f + v.f), wr (s.g + v.g), wr (s.h + v.h)⟩
theorem addZ_end (s v : S8) : addZ s.l v.l 8 = (sum8 s v).l := by
  simp [addZ, S8.l, sum8, wr, IntKind.wrap_u32']

set_option maxRecDepth 100000 in
set_option maxHeartbeats 2000000 in
theorem dadd_any (gs g o n c : Nat) (s : S8) (B : List UInt8) (w : World) (hn : 64 ≤ n) (hnc : n ≤ c) (hc : (c : Int) ≤ 9223372036854775807) (hB : B.length = 64) (hb : BytesAt w g o B) (hs : At w gs 140 (u32s s.l)) (hg : g ≠ gs) :
    Calls Tryd.prog 125 #[.pointer (some ⟨gs, 0, none⟩), .slice (some ⟨g, o, none⟩) n c] w fun e w' => e = .returned (.tuple #[]) ∧ At w' gs 140 (u32s (addB s B).l) ∧ Only (· = gs) w w' := by
  have HS := Lib.hid hs
  have hlt := hs.lt
  have H1 := Lib.hid (u32s_one (sched B 64))
  have H2 := Lib.hid (u32s_one kTab)
  have SC := Lib.hid (schedule_any g o n c B w hn hnc hc hB hb)
  clear hb hB hs
  go_enter Tryd.func125, Tryd.ntmps125
  go_wp2_with fail
  refine SC.out.mono ?_
  rintro e w1 ⟨rfl, o1⟩
  have O1 := Lib.hid o1
  clear o1 SC
  go_wp2_with fail
  refine (rounds_any _).mono ?_
  rintro e w2 ⟨rfl, o2⟩
  have O2 := Lib.hid (O1.out.trans o2 (fun _ _ h => h))
  clear o2 O1
  go_wp2_with (first | (with_reducible refine wpl_alloc_all (o := ⟨some 4, _, _, _, _, _⟩) rfl _ rfl _ (zero64 _) ?_; intro w3 h3 o3 s3; have S3 := Lib.hid s3; clear s3) |
    (with_reducible refine wpl_alloc_all (o := ⟨some 5, _, _, _, _, _⟩) rfl _ rfl _ (zero64 _) ?_; intro w4 h4 o4 s4; have S4 := Lib.hid s4; clear s4) |
    (refine wpl_store_all rfl 165 (.tmp 4) (.tmp 20) rfl w2.heap.size 165 zeros (u32s (sched B 64)) rfl rfl (h3.only o4 (fun h => h)) (lenSched B) (infoSched B) H1.out ?_; intro w5 h5 o5 s5; have S5 := Lib.hid s5; clear s5) |
    (refine wpl_store_all rfl 165 (.tmp 5) (.tmp 21) rfl w3.heap.size 165 zeros (u32s kTab) rfl rfl (h4.only o5 (by have := S3.out; omega)) lenK infoK H2.out ?_; intro w6 h6 o6 s6; have S6 := Lib.hid s6; clear s6))
  have hW := h5.only o6 (by have := S3.out; omega)
  have o7 : Only (fun _ => False) w w6 := by
    have e1 := O2.out.trans (o3.trans o4 (fun _ _ h => h)) (fun _ _ h => h)
    have z := O2.out.size
    have e2 := e1.trans (o5.mono (T := fun i => w.heap.size ≤ i) (fun i _ h => by omega)) (fun i hi h => by omega)
    exact e2.trans (o6.mono (T := fun i => w.heap.size ≤ i) (fun i _ h => by have := S3.out; omega)) (fun i hi h => by omega)
  have hS := HS.out.only o7 (fun h => h)
  have s0 := hS.cell (i := 0) rfl
  have s1 := hS.cell (i := 1) rfl
  have s2 := hS.cell (i := 2) rfl
  have s3 := hS.cell (i := 3) rfl
  have s4 := hS.cell (i := 4) rfl
  have s5 := hS.cell (i := 5) rfl
  have s6 := hS.cell (i := 6) rfl
  have s7 := hS.cell (i := 7) rfl
  have HW := Lib.hid hW
  have HK := Lib.hid h6
  have H7 := Lib.hid o7
  have HSS := Lib.hid hS
  have z2 := O2.out.size
  have z3 : w3.heap.size = w2.heap.size + 1 := S3.out
  have Z3 := Lib.hid z3
  clear h3 o3 h4 o4 h5 o5 h6 o6 hW o7 hS S3 S4 S5 S6 z3
  go_quiet (fail)
  go_wp2_with fail
  go_loopw [6, 7, 8, 9, 10, 11, 12, 13, 54] (fun a6 a7 a8 a9 a10 a11 a12 a13 iv wr => ∃ (i : Nat) (r : S8), i ≤ 64 ∧ iv = .int .i64 i ∧ a6 = .int .u32 r.a ∧ a7 = .int .u32 r.b ∧ a8 = .int .u32 r.c ∧ a9 = .int .u32 r.d ∧ a10 = .int .u32 r.e ∧ a11 = .int .u32 r.f ∧ a12 = .int .u32 r.g ∧ a13 = .int .u32 r.h ∧ Hid (Rnd (sched B 64) s i r) ∧
      Hid (At wr w2.heap.size 165 (u32s (sched B 64))) ∧ Hid (At wr w3.heap.size 165 (u32s kTab)) ∧ Hid (At wr gs 140 (u32s s.l)) ∧ Hid (Only (fun _ => False) w wr)) (fun _ _ _ _ _ _ _ _ iv _ => 64 - (intOf iv).toNat)
  case atStart => exact ⟨0, s, by omega, rfl, rfl, rfl, rfl, rfl, rfl, rfl, rfl, rfl, (rfl : s = rounds8 (sched B 64) s 0), HW.out.drewN _, HK.out.drewN _, HSS.out.drewN _, H7.out.drewN _⟩
  case round =>
    clear HW HK HSS H7 s0 s1 s2 s3 s4 s5 s6 s7
    obtain ⟨i, r, hi, rfl, rfl, rfl, rfl, rfl, rfl, rfl, rfl, rfl, hr, hW, hK, hS, ho⟩ := hrel
    by_cases hlt : i < 64
    · have cK := hK.out.cell (rounds_cell i hlt)
      have cW := hW.out.cell (sched_cell B i hlt)
      have NX := rnd_next hr.out
      generalize kTab.getD i 0 = kk at *
      generalize (sched B 64).getD i 0 = ww at *
      obtain ⟨ra, rb, rc, rd, re, rf, rg, rh⟩ := r
      rw [round8_eq] at NX
      have NY := Lib.hid NX
      clear NX
      dsimp only
      have i1 : (i : Int) < 64 := by omega
      go_wp2_with fail
      go_quiet ((go_at_call 144; exact Calls.quiet_of_same ((mixed_any re 6 11 25 6 11 25 _ (by omega) (by omega) (by omega) (by omega) (by omega) (by omega) rfl rfl rfl).mono (fun _ _ h => ⟨h.1, h.2.symm⟩))))
      go_wp2_with fail
      refine (mixed_any ra 2 13 22 2 13 22 _ (by omega) (by omega) (by omega) (by omega) (by omega) (by omega) rfl rfl rfl).mono ?_
      rintro e w' ⟨rfl, rfl⟩
      go_wp2_with fail
      go_roundw
      case rel => exact ⟨i + 1, S8.mk _ _ _ _ _ _ _ _, by omega, by go_num, rfl, rfl, rfl, rfl, rfl, rfl, rfl, rfl, NY, hW.out.drewN _, hK.out.drewN _, hS.out.drewN _, ho.out.drewN _⟩
      case measure => simp [intOf]; omega
    · obtain rfl : i = 64 := by omega
      have HE := Lib.hid (addZ_end s r)
      have HR : Hid (addB s B = sum8 s r) := by
        have := hr.out; unfold Rnd at this; subst this; exact rfl
      clear hr hW hK
      have HSS := Lib.hid hS.out
      have HO := Lib.hid ho.out
      clear hS ho
      obtain ⟨ra, rb, rc, rd, re, rf, rg, rh⟩ := r
      dsimp only
      go_wp2_with fail
      go_loopw [114] (fun iv wx => ∃ i : Nat, i ≤ 8 ∧ iv = .int .i64 i ∧ Hid (At wx gs 140 (u32s (addZ s.l (S8.mk ra rb rc rd re rf rg rh).l i))) ∧ Hid (Only (· = gs) w wx)) (fun iv _ => 8 - (intOf iv).toNat)
      case atStart => exact ⟨0, by omega, rfl, HSS.out, HO.out.mono (fun _ _ h => h.elim)⟩
      case round =>
        clear HSS HO
        obtain ⟨i, hi, rfl, hS, ho⟩ := hrel
        by_cases hlt : i < 8
        · have cS := hS.out.cell (addZ_cell s.l (S8.mk ra rb rc rd re rf rg rh).l i hlt)
          have fS := hS.out.frozen i
          have NS := Lib.hid (addZ_set s.l (S8.mk ra rb rc rd re rf rg rh).l i)
          have hv : (u32s (S8.mk ra rb rc rd re rf rg rh).l)[i]? = some (.int .u32 ((S8.mk ra rb rc rd re rf rg rh).l.getD i 0)) := by
            have : i < (S8.mk ra rb rc rd re rf rg rh).l.length := hlt
            simp [u32s, List.getD_eq_getElem?_getD, this]
          have HV := Lib.hid hv
          clear hv
          generalize (S8.mk ra rb rc rd re rf rg rh).l.getD i 0 = x at *
          generalize s.l.getD i 0 = y at *
          have i1 : (i : Int) < 8 := by omega
          go_wp2_with (refine wpl_index rfl 140 (.tmp 113) (.tmp 114) rfl (u32s (S8.mk ra rb rc rd re rf rg rh).l) .i64 i rfl rfl Tryd.underlying140 (Tryd.sizeOf139 _) (Tryd.isAgg139 _) hlt _ HV.out ?_)
          go_region
          go_wp2_with fail
          go_roundw
          case rel => (repeat apply Exists.intro); exact ⟨⟨i + 1, by omega, by go_num, by rw [← NS.out]; exact (hS.out.put i _).drew, (ho.out.put (p := ⟨gs, i, none⟩) (fun _ => rfl) _).drew⟩, rfl⟩
          case measure => simp [intOf]; omega
        · obtain rfl : i = 8 := by omega
          have hS' := hS.out
          rw [HE.out, ← HR.out] at hS'
          have HF := Lib.hid hS'
          clear hS' hS
          go_wp2_with fail
          go_end0
          exact ⟨rfl, HF.out, ho.out⟩
end Go.Proofs.YtjmdfipofgmakaaDoor
