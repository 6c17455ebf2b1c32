/-
  SignTexts: walk.
  Proved: sorteslaw05.SignTexts returns true for every signature, every text and every change, never panics, and leaves its arguments as they were. Conditions: those of the given row (what the row's variables hold is what their initialisers lay; strings take at most the bytes that the row allows).
-/
import Derived.Test.YtoekhpnapnhefaaDoorMK
import Derived.Test.YtoekhpnapnhefaaDoorML
import Derived.Test.YtoekhpnapnhefaaDoorMD
import Derived.Test.YtoekhpnapnhefaaDoorMA
import Derived.Test.YtoekhpnapnhefaaDoorME
namespace Go.Proofs.YtoekhpnapnhefaaDoor
open Go.RowKit Go.Shelf
set_option linter.unusedVariables false
set_option linter.unusedSimpArgs false

theorem BRow.set {w : World} {g cap : Nat} {l : List UInt8} (h : BRow w g cap l) (j : Nat) (b : UInt8) (hj : j < l.length) : BRow (w.setCell ⟨g, j, none⟩ (.int .u8 (b.toNat : Int))) g cap (l.set j b) := by
  obtain ⟨cur, fr, h, hs, hf, hc, ht, hl⟩ := h
  refine ⟨cur.setIfInBounds j (.int .u8 (b.toNat : Int)), fr, ?_, by simpa using hs, hf, hc, ?_, by simpa using hl⟩
  · simp [World.setCell, Array.getElem?_modify, h]
  · rw [Array.toList_setIfInBounds, List.length_set, List.take_set, ht]
    simp [bcells, List.map_set]
theorem BRow.back {w : World} {g cap : Nat} {l : List UInt8} (h : BRow w g cap l) : (convert 55 9 (.slice (some ⟨g, 0, none⟩) l.length cap)).run Tryd.prog w = .ok (.string ⟨l.toArray⟩) w :=
  run_convert_bytes_back (P := Tryd.prog) w 55 9 5 ⟨g, 0, none⟩ cap l Tryd.underlying55 Tryd.underlying5 Tryd.underlying9 (fun j hj => by
    rw [Addr.add_lit, Nat.zero_add]
    exact h.get j _ (List.getElem?_eq_getElem hj))
theorem nguard_sig (w : World) (x y : Operand) (a b c d : Int) : (eqGuard .neq 51 x y (.agg #[.int .i64 a, .int .i64 b]) (.agg #[.int .i64 c, .int .i64 d])).run Tryd.prog w = .ok () w := by
  go_simp
theorem neq_sig_same (w : World) (a b : Int) : (binOp .neq 51 (.agg #[.int .i64 a, .int .i64 b]) (.agg #[.int .i64 a, .int .i64 b])).run Tryd.prog w = .ok (.bool false) w := by
  rw [neq_sig]; simp
set_option maxRecDepth 100000 in
set_option maxHeartbeats 4000000 in
theorem signTexts_any (r s : Int) (text : ByteArray) (pl by_ : Int) (w : World) (ht : Tab w) (hm : MaxL w) (hE : ErrV w) (hr : I64 r) (hs : I64 s) (hpl : I64 pl) (hby : 0 ≤ by_ ∧ by_ ≤ 255) (hz : text.size ≤ 140737488351300) :
    Calls Tryd.prog 6 #[.int .i64 r, .int .i64 s, .agg #[.string text, .int .i64 pl, .int .u8 by_]] w fun e w' => e = .returned (.bool true) ∧ Only (fun _ => False) w w' := by
  have oq := (Only.refl (fun _ => False) w).alloc (.cells [.string text, .int .i64 pl, .int .u8 by_].toArray 49)
  have SA := Lib.hid (sanity5 _ (ht.only oq) (hm.only oq))
  have B := Lib.hid (At.new w 49 [.string text, .int .i64 pl, .int .u8 by_])
  have O := Lib.hid oq
  clear oq
  have TX := Lib.hid (fun W (o : Only (fun _ => False) w W) => text_any r s hr hs W (ht.only o))
  have RX := Lib.hid (fun W => rtext5_any r s hr hs W)
  have hL : 0 < (txt r s).length := List.length_pos_iff.2 (fun h => by have := txt_has_dot r s; rw [h] at this; cases this)
  have hL2 := txt_len hr hs
  obtain ⟨tx, htx⟩ : ∃ tx, tx = ByteArray.mk (txt r s).toArray := ⟨_, rfl⟩
  have htl : tx.data.toList = txt r s := by rw [htx]
  have hsz : tx.size = (txt r s).length := by rw [htx]; exact List.size_toArray
  have RD := Lib.hid (fun W (o : Only (fun _ => False) w W) => sread_any tx r s true W (by rw [htl]; exact rd_txt hr hs) (ht.only o) (hE.only o) (by omega))
  rw [← htx] at TX RX
  have hsz1 : 0 < tx.size := by omega
  have hsz2 : tx.size ≤ 43 := by omega
  have hne : ¬ tx = ByteArray.empty := fun h => by rw [h] at hsz1; exact absurd hsz1 (by decide)
  have HT := Lib.hid ht
  have HE := Lib.hid hE
  clear htl hsz hL hL2 htx ht hm hE hr hs
  go_enter Tryd.func6, Tryd.ntmps6
  go_wp2_with fail
  refine (SA.out).mono ?_
  rintro e wc1 ⟨rfl, oo⟩
  replace O := Lib.hid (O.out.trans oo (fun _ _ h => h))
  replace B := Lib.hid (B.out.only oo (fun h => h))
  clear oo
  go_wp2_with fail
  clear SA
  have A := Lib.hid (At.new wc1 51 [.int .i64 r, .int .i64 s])
  replace B := Lib.hid (B.out.alloc (.cells [.int .i64 r, .int .i64 s].toArray 51))
  replace O := Lib.hid (O.out.alloc (.cells [.int .i64 r, .int .i64 s].toArray 51))
  refine (TX.out _ O.out).mono ?_
  rintro e wc2 ⟨rfl, oo⟩
  replace O := Lib.hid (O.out.trans oo (fun _ _ h => h))
  replace A := Lib.hid (A.out.only oo (fun h => h))
  replace B := Lib.hid (B.out.only oo (fun h => h))
  clear oo
  go_wp2_with fail
  refine (RD.out _ O.out).mono ?_
  rintro e w3 ⟨rfl, oo⟩
  have C := Lib.hid (At.new w3 51 [.int .i64 r, .int .i64 s])
  replace O := Lib.hid ((O.out.trans oo (fun _ _ h => h)).alloc (.cells [.int .i64 r, .int .i64 s].toArray 51))
  replace A := Lib.hid ((A.out.only oo (fun h => h)).alloc (.cells [.int .i64 r, .int .i64 s].toArray 51))
  replace B := Lib.hid ((B.out.only oo (fun h => h)).alloc (.cells [.int .i64 r, .int .i64 s].toArray 51))
  clear oo
  have c0 := A.out.cell (i := 0) rfl
  have c1 := A.out.cell (i := 1) rfl
  go_wp2_with fail
  refine (RX.out _).mono ?_
  rintro e w4 ⟨rfl, oo⟩
  replace O := Lib.hid (O.out.trans oo (fun _ _ h => h))
  replace A := Lib.hid (A.out.only oo (fun h => h))
  replace B := Lib.hid (B.out.only oo (fun h => h))
  replace C := Lib.hid (C.out.only oo (fun h => h))
  clear oo c0 c1
  have c0 := A.out.cell (i := 0) rfl
  have c1 := A.out.cell (i := 1) rfl
  have d0 := C.out.cell (i := 0) rfl
  have d1 := C.out.cell (i := 1) rfl
  obtain ⟨cap, hcv, hbr, hol⟩ := conv_brow w4 tx (by omega)
  have htz : tx.data.toList.length = tx.size := Array.length_toList
  rw [htz] at hcv
  go_wp2_with (refine wpl_bin (o := ⟨some 41, _, _, _, _, _⟩) rfl .neq 51 51 (.tmp 39) (.tmp 40) rfl _ _ _ rfl rfl (nguard_sig _ _ _ _ _ _ _) (neq_sig_same _ _ _) ?_)
  have HGB : Hid (w.heap.size < w4.heap.size) := Lib.hid B.out.lt
  have BR := Lib.hid hbr
  replace O := Lib.hid (O.out.trans hol (fun _ _ h => h))
  replace B := Lib.hid (B.out.only hol (fun h => h))
  generalize Lib.bytesWorld w4 5 tx = w5 at *
  generalize w4.heap.size = gb at *
  obtain ⟨n, hn⟩ : ∃ n, n = tx.size := ⟨_, rfl⟩
  rw [← hn] at hsz1 hsz2 htz ⊢
  have HN := Lib.hid hn
  obtain ⟨m, e1⟩ : ∃ m, pl.tmod (n : Int) = m := ⟨_, rfl⟩
  have m1 : m < n := by rw [← e1]; exact Int.tmod_lt_of_pos pl (by omega)
  have m2 : -(n : Int) < m := by
    have := Int.tmod_lt_of_pos (-pl) (show (0 : Int) < n by omega)
    rw [Int.neg_tmod, e1] at this
    omega
  obtain ⟨idx, e2⟩ : ∃ idx : Nat, (m + (n : Int)) % (n : Int) = (idx : Int) := Int.eq_ofNat_of_zero_le (Int.emod_nonneg _ (by omega))
  have m3 : (idx : Int) < n := by rw [← e2]; exact Int.emod_lt_of_pos _ (by omega)
  have e3 : (m + (n : Int)).tmod (n : Int) = (idx : Int) := by rw [Int.tmod_eq_emod_of_nonneg (by omega)]; exact e2
  have z1 : ((n : Int) == 0) = false := by rw [beq_eq_false_iff_ne]; omega
  have z2 : (n : Int) ≠ 0 := by omega
  have z3 : (n : Int) ≤ 43 := by omega
  have z4 : (0 : Int) ≤ m + (n : Int) := by omega
  have hcap : n ≤ cap := by
    obtain ⟨_, _, _, _, _, _, _, h8⟩ := BR.out
    omega
  clear hcv hbr hol c0 c1 d0 d1 A C htz hn
  obtain ⟨X, F, FM⟩ := fam w5
  have NE := FM.ne
  have c0 := FM.cell (B.out.cell (i := 0) rfl)
  have c1 := FM.cell (B.out.cell (i := 1) rfl)
  have c2 := FM.cell (B.out.cell (i := 2) rfl)
  refine FM.tail 15 (by kernel_rfl) (by decide +kernel) ?_
  simp only [List.take_succ_cons, List.take_zero, List.drop_succ_cons, List.drop_zero]
  repeat (first | go_big_quiet_step (fail) | quiet_step (fail))
  refine wpQuiet_nil ?_
  intro x
  clear c0 c1 c2
  replace BR := Lib.hid (BR.out.only (FM.own x) (fun h => h))
  replace O := Lib.hid (O.out.trans (FM.own x) (fun _ _ h => h))
  replace B := Lib.hid (B.out.only (FM.own x) (fun h => h))
  generalize F x = w6 at BR O B ⊢
  clear FM NE
  have cz := BR.out.cellAny idx (by omega)
  have fz := BR.out.frozen idx (by omega)
  obtain ⟨old, cz⟩ := Option.isSome_iff_exists.1 cz
  have BS := Lib.hid (show BRow (w6.setCell ⟨gb, idx, none⟩ (.int .u8 by_)) gb cap (tx.data.toList.set idx (UInt8.ofNat by_.toNat)) from by
    have := BR.out.set idx (UInt8.ofNat by_.toNat) (by have : tx.data.toList.length = tx.size := Array.length_toList; have := HN.out; omega)
    rw [show (((UInt8.ofNat by_.toNat).toNat : Nat) : Int) = by_ by rw [UInt8.toNat_ofNat']; omega] at this
    exact this)
  have hll : (tx.data.toList.set idx (UInt8.ofNat by_.toNat)).length = n := by
    rw [List.length_set]
    have : tx.data.toList.length = tx.size := Array.length_toList
    have := HN.out
    omega
  have OS := Lib.hid (show Only (fun _ => False) w (w6.setCell ⟨gb, idx, none⟩ (.int .u8 by_)) from O.out.put (p := ⟨gb, idx, none⟩) (fun h => absurd (show gb < w.heap.size from h) (by have := HGB.out; omega)) _)
  have BQ := Lib.hid (B.out.far (p := ⟨gb, idx, none⟩) (show w.heap.size ≠ gb by have := HGB.out; omega) (.int .u8 by_))
  go_wp2_with fail
  generalize w6.setCell ⟨gb, idx, none⟩ (.int .u8 by_) = w7 at BS OS BQ ⊢
  obtain ⟨u2, hu2⟩ : ∃ u2, u2 = ByteArray.mk (tx.data.toList.set idx (UInt8.ofNat by_.toNat)).toArray := ⟨_, rfl⟩
  have hu2z : u2.size = n := by rw [hu2]; show (List.toArray _).size = n; rw [List.size_toArray]; exact hll
  have DS := Lib.hid (show ∀ W, Only (fun _ => False) w7 W → W.cell? ⟨w.heap.size, 0, none⟩ = some (.string text) ∧ (convert 55 9 (.slice (some ⟨gb, 0, none⟩) n cap)).run Tryd.prog W = .ok (.string u2) W from fun W o => by
    refine ⟨(BQ.out.only o (fun h => h)).cell (i := 0) rfl, ?_⟩
    have := (BS.out.only o (fun h => h)).back
    rw [hll, ← hu2] at this
    exact this)
  have hz1 : (1 : Int) ≤ (tx.size : Int) := by have := HN.out; omega
  have hz2 : (tx.size : Int) ≤ 43 := by have := HN.out; omega
  have n1 : ¬ (9223372036854775807 < tx.size + 1) := by omega
  have n2 : ¬ (9223372036854775807 < 1 + tx.size) := by omega
  clear BS hll cz fz BR O B hu2
  have HM2 := Lib.hid hu2z
  have HBY := Lib.hid hby
  clear hu2z hby m1 m2 m3 e1 e2 e3 z4 hcap hpl
  go_region_held3 (fun W => W.cell? ⟨w.heap.size, 0, none⟩ = some (.string text) ∧ (convert 55 9 (.slice (some ⟨gb, 0, none⟩) n cap)).run Tryd.prog W = .ok (.string u2) W) ((first | exact DS.out _ ((Only.refl (fun _ => False) _).drew) | exact DS.out _ (((Only.refl (fun _ => False) _).alloc _).drew))) (first | fail)
  go_wp2_with fail
  obtain ⟨strs, hst⟩ : ∃ strs : List ByteArray, strs = [text, u2, tx ++ ⟨#[48]⟩, ⟨#[48]⟩ ++ tx, tx.extract 1 tx.size, ⟨#[46]⟩ ++ tx] := ⟨_, rfl⟩
  have HLEN := Lib.hid (show strs.length = 6 by rw [hst]; rfl)
  have HSZ := Lib.hid (show ∀ x ∈ strs, x.size ≤ 140737488355328 from fun x hx => by
    have := HM2.out
    rw [hst] at hx
    simp only [List.mem_cons, List.not_mem_nil, or_false] at hx
    rcases hx with rfl | rfl | rfl | rfl | rfl | rfl
    · omega
    · omega
    · rw [ByteArray.size_append]; show tx.size + 1 ≤ _; omega
    · rw [ByteArray.size_append]; show 1 + tx.size ≤ _; omega
    · rw [ByteArray.size_extract]; omega
    · rw [ByteArray.size_append]; show 1 + tx.size ≤ _; omega)
  obtain ⟨wL, hwL⟩ : ∃ wL, wL = (w7.alloc (.cells #[.string text, .string u2, .string (tx ++ ⟨#[48]⟩), .string (⟨#[48]⟩ ++ tx), .string (tx.extract 1 tx.size), .string (⟨#[46]⟩ ++ tx)] 9)).drew := ⟨_, rfl⟩
  rw [← hwL]
  have AL : Hid (At wL w7.heap.size 9 (strs.map Value.string)) := Lib.hid (by
    rw [hwL, hst]
    exact (At.new w7 9 [.string text, .string u2, .string (tx ++ ⟨#[48]⟩), .string (⟨#[48]⟩ ++ tx), .string (tx.extract 1 tx.size), .string (⟨#[46]⟩ ++ tx)]).drew)
  have OL : Hid (Only (fun _ => False) w wL) := Lib.hid (by rw [hwL]; exact (OS.out.alloc _).drew)
  generalize w7.heap.size = gL at *
  clear hst hwL DS OS BQ
  go_loopw [6, 14, 15, 16, 17, 18, 79] (fun _ _ _ _ _ _ iv wr => ∃ (k : Nat), k ≤ 6 ∧ iv = .int .i64 k ∧ Hid (At wr gL 9 (strs.map Value.string)) ∧ Hid (Only (fun _ => False) w wr)) (fun _ _ _ _ _ _ iv _ => (6 - intOf iv).toNat)
  case atStart => exact ⟨0, by omega, rfl, AL, OL⟩
  case round =>
    clear AL OL
    obtain ⟨k, hk, rfl, HA, HO⟩ := hrel
    by_cases hlt : k < 6
    · obtain ⟨x, hx⟩ : ∃ x, strs[k]? = some x := ⟨_, List.getElem?_eq_getElem (by rw [HLEN.out]; exact hlt)⟩
      have hxz := HSZ.out x (List.mem_of_getElem? hx)
      have c0 := HA.out.cell (i := k) (v := .string x) (by rw [List.getElem?_map, hx]; rfl)
      obtain ⟨v, u, b, hrd⟩ := rd_total x.data.toList
      have SR := Lib.hid (fun W (o : Only (fun _ => False) w W) => sread_any x v u b W hrd (HT.out.only o) (HE.out.only o) hxz)
      have RR := Lib.hid (fun W => rread5_any x v u b W hrd hxz)
      have i1 : (k : Int) < 6 := by omega
      clear hx hxz hrd
      go_wp2_with fail
      refine (SR.out _ HO.out).mono ?_
      rintro e w8 ⟨rfl, oo⟩
      have A1 := Lib.hid (At.new w8 51 [.int .i64 v, .int .i64 u])
      have H1 := Lib.hid ((HA.out.only oo (fun h => h)).alloc (.cells [.int .i64 v, .int .i64 u].toArray 51))
      have O1 := Lib.hid ((HO.out.trans oo (fun _ _ h => h)).alloc (.cells [.int .i64 v, .int .i64 u].toArray 51))
      clear oo c0
      go_wp2_with fail
      refine (RR.out _).mono ?_
      rintro e w9 ⟨rfl, oo⟩
      have A2 := Lib.hid (At.new w9 51 [.int .i64 v, .int .i64 u])
      replace A1 := Lib.hid ((A1.out.only oo (fun h => h)).alloc (.cells [.int .i64 v, .int .i64 u].toArray 51))
      replace H1 := Lib.hid ((H1.out.only oo (fun h => h)).alloc (.cells [.int .i64 v, .int .i64 u].toArray 51))
      replace O1 := Lib.hid ((O1.out.trans oo (fun _ _ h => h)).alloc (.cells [.int .i64 v, .int .i64 u].toArray 51))
      clear oo
      have c0 := A1.out.cell (i := 0) rfl
      have c1 := A1.out.cell (i := 1) rfl
      have d0 := A2.out.cell (i := 0) rfl
      have d1 := A2.out.cell (i := 1) rfl
      cases b
      · go_wp2_with (refine wpl_bin (o := ⟨some 99, _, _, _, _, _⟩) rfl .neq 51 51 (.tmp 97) (.tmp 98) rfl _ _ _ rfl rfl (nguard_sig _ _ _ _ _ _ _) (neq_sig_same _ _ _) ?_)
        clear c0 c1 d0 d1
        go_roundw
        case rel => exact ⟨k + 1, by omega, by go_num, H1, O1⟩
        case measure => simp [intOf]; omega
      · go_wp2_with (refine wpl_bin (o := ⟨some 99, _, _, _, _, _⟩) rfl .neq 51 51 (.tmp 97) (.tmp 98) rfl _ _ _ rfl rfl (nguard_sig _ _ _ _ _ _ _) (neq_sig_same _ _ _) ?_)
        clear c0 c1 d0 d1
        go_roundw
        case rel => exact ⟨k + 1, by omega, by go_num, H1, O1⟩
        case measure => simp [intOf]; omega
    · obtain rfl : k = 6 := by omega
      go_wp2_with fail
      go_ret
      exact ⟨rfl, HO.out⟩
end Go.Proofs.YtoekhpnapnhefaaDoor

namespace Go.Proofs.YtoekhpnapnhefaaDoor
open Go.ChangeShapes Go.WideShapes Go.ChangeAt Go.RowKit
set_option linter.unusedVariables false
set_option linter.unusedSimpArgs false

theorem signTexts_walk (W : World) (vals : Ty.Vals [.int .i64, .int .i64, edTy]) (args : List Value) (h : ArgsHold W [.int .i64, .int .i64, edTy] vals args) (hs : SmallAll [.int .i64, .int .i64, edTy] vals) (hL : laidMetH Tryd.prog Rows.signTextsRow.laid W) (hO : W.ShapedOpen Tryd.prog) :
    Calls Tryd.prog 6 args.toArray W fun e W' => e = .returned (.bool true) ∧ Below W.heap.size W W' := by
  obtain ⟨r, s, q, _⟩ := vals
  obtain ⟨c0, v0, r0, rfl, h0, i0, c1, v1, r1, rfl, h1, i1, c2, v2, r2, rfl, h2, i2, rfl⟩ := h
  obtain ⟨rfl, k0⟩ := int_arg h0 i0
  obtain ⟨rfl, k1⟩ := int_arg h1 i1
  obtain ⟨rfl, q1, q2⟩ := ed_arg h2 i2
  have hz : q.1.size ≤ reachBytes := ed_small hs.2.2.1
  refine (signTexts_any r s q.1 q.2.1 q.2.2.1 W (tab_of hL) (maxL_of hO) (errV_of hL) k0 k1 q1 q2 (by unfold reachBytes at hz; omega)).mono ?_
  rintro e w' ⟨h1, o⟩
  exact ⟨h1, o.below (fun _ h => h.elim) (Nat.le_refl _)⟩
theorem signTexts_reads (os : Os) {H : Type} (enc : TypeId × Value → H) : ∃ places, DataW.whole enc Tryd.prog ((laidWorld os).forCall (fun _ _ => 0) ⟨#[], #[.int .i64 0, .int .i64 0, .agg #[.string ⟨#[]⟩, .int .i64 0, .int .u8 0]], []⟩).memory Tryd.f6.params.toList Rows.signTextsSpec.vars false (#[.int .i64 0, .int .i64 0, .agg #[.string ⟨#[]⟩, .int .i64 0, .int .u8 0]] : Array Value).toList 8 = some ([.lit (.int .i64 0), .lit (.int .i64 0), .agg [.lit (.string []), .lit (.int .i64 0), .lit (.int .u8 0)]], [], places) :=
  ⟨[], by kernel_rfl⟩
set_option maxRecDepth 100000 in
theorem signTexts_lifted (os : Os) (started : os.Started) (H : Type) (enc : TypeId × Value → H) (F : Stop.Interp) :
    ReturnsInHanded {} Tryd.checked os 6 .any ((OpenSpec.ofChange Rows.signTextsSpec).preRow enc Tryd.prog Tryd.f6 Rows.signTextsRow.domain false Rows.signTextsRow.laid) (((OpenSpec.ofChange Rows.signTextsSpec).at F).post enc Tryd.prog Tryd.f6 false true false false) := by
  obtain ⟨places, hx⟩ := signTexts_reads os enc
  refine row_lifted 6 Tryd.f6 Rows.signTextsSpec Rows.signTextsRow.domain Rows.signTextsRow.laid [.int .i64, .int .i64, edTy] 4 os started H enc F Tryd.func6 (by kernel_rfl) rfl rfl (by kernel_rfl) Tryd.underlying4 (by kernel_rfl) (by kernel_rfl) ?_
    (witness_row_at (enc := enc) (C := Tryd.checked) false (laidWorld os) #[.int .i64 0, .int .i64 0, .agg #[.string ⟨#[]⟩, .int .i64 0, .int .u8 0]] rfl (by kernel_rfl) (by kernel_rfl) (by kernel_rfl)
      (OpenSpec.preRow_of_cond 8 hx (by kernel_rfl) (fun k hk => by cases hk) (by kernel_rfl) (laid_met5 os _))) signTexts_walk
  intro ds hd
  match ds, hd with
  | [d1, d2, d3], _ => rfl
theorem signTexts_said : Rows.SignTextsSaid :=
  OpenClaim.holds_of_cond 6 Tryd.f6 rfl rfl rfl rfl rfl rfl rfl ⟨rfl, rfl, rfl, rfl, rfl⟩ rfl rfl rfl rfl rfl (by kernel_rfl) Tryd.func6 (by kernel_rfl)
    (of_decide_eq_true (by kernel_rfl)) (by unfold Func.isWrapper; first | (rw [if_pos (by decide +kernel)]; kernel_rfl) | (rw [if_neg (by decide +kernel)]; exact ⟨rfl, rfl⟩))
    (fun os started H enc _ F => by rw [OpenClaim.pre_eq_preRow]; exact signTexts_lifted os started H enc F)
theorem signTexts_plain (f : FuncId) (fn : Func) (hf : Tryd.pinned.checked.prog.funcNamed "sortes/sorteslaw05.SignTexts" = some f) (hfn : Tryd.pinned.checked.prog.funcs[f]? = some fn) :
    true = Tryd.pinned.checked.prog.looks [] ∧ ∀ (j : Nat) t, fn.params[j]? = some t → Tryd.pinned.checked.prog.wantsStandIn t = false := by
  obtain rfl : f = 6 := Option.some.inj ((show Tryd.prog.funcNamed "sortes/sorteslaw05.SignTexts" = some 6 by kernel_rfl).symm.trans hf) |>.symm
  obtain rfl : fn = Tryd.f6 := (Option.some.inj (Tryd.func6.symm.trans hfn)).symm
  refine ⟨by kernel_rfl, fun j t ht => ?_⟩
  have hall : Tryd.f6.params.toList.all (fun t => Tryd.prog.wantsStandIn t == false) = true := by kernel_rfl
  have := List.all_eq_true.1 hall t (by simpa using Array.mem_of_getElem? ht)
  exact eq_of_beq this
theorem signTexts_holds : Rows.SignTextsCardSaid :=
  Claim7.holds_tied_plain_at .later [] _ _ _ _ signTexts_said (fun _ h => by cases h) (by kernel_rfl) (fun _ h => by cases h) signTexts_row_tie rfl ⟨rfl, rfl⟩ (by kernel_rfl) rfl signTexts_plain (by kernel_rfl)
end Go.Proofs.YtoekhpnapnhefaaDoor
