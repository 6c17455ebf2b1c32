/-
  SignChecks: walk.
-/
import Derived.Test.YtjmdfipofgmakaaDoorTd
namespace Go.Proofs.YtjmdfipofgmakaaDoor
open Go.RowKit Go.Shelf
set_option linter.unusedVariables false
set_option linter.unusedSimpArgs false

theorem w64_i64 (n : Int) : I64 (wrap64 n) := by unfold I64 wrap64; omega
set_option maxRecDepth 100000 in
set_option maxHeartbeats 2000000 in
theorem signChecks_any (secret : Int) (ta : ByteArray) (qr qs qk : Int) (qt : ByteArray) (raw : Bool) (w : World) (ht : Tab w) (hm : MaxL w) (hs : I64 secret) (h1 : I64 qr) (h2 : I64 qs) (h3 : I64 qk) :
    Calls Tryd.prog 9 #[.int .i64 secret, .string ta, .agg #[.int .i64 qr, .int .i64 qs, .int .i64 qk, .string qt, .bool raw]] w fun e w' => e = .returned (.bool true) ∧ Only (fun _ => False) w w' := by
  have SA := Lib.hid (sanity5 (w.alloc (.cells [.int .i64 qr, .int .i64 qs, .int .i64 qk, .string qt, .bool raw].toArray 58)) (ht.only ((Only.refl _ w).alloc _)) (hm.only ((Only.refl _ w).alloc _)))
  have B := Lib.hid (At.new w 58 [.int .i64 qr, .int .i64 qs, .int .i64 qk, .string qt, .bool raw])
  have O := Lib.hid ((Only.refl (fun _ => False) w).alloc (.cells [.int .i64 qr, .int .i64 qs, .int .i64 qk, .string qt, .bool raw].toArray 58))
  have HS := Lib.hid hs
  have PU := Lib.hid (fun W => rpublic_any secret W hs)
  have Q1 := Lib.hid h1
  have Q2 := Lib.hid h2
  have Q3 := Lib.hid h3
  clear ht hm hs h1 h2 h3
  go_enter Tryd.func9, Tryd.ntmps9
  go_wp2_with fail
  refine (SA.out).mono ?_
  rintro e wc1 ⟨rfl, oo⟩
  replace O := Lib.hid (O.out.trans oo (fun _ _ h => h))
  replace B := Lib.hid (B.out.only oo (fun h => h))
  clear oo
  go_wp2_with fail
  obtain ⟨y, hy⟩ : ∃ y, y = ta.extract 0 (min (ta.size : Int) 300).toNat := ⟨_, rfl⟩
  have hyz : y.size ≤ 300 := by rw [hy, ByteArray.size_extract]; omega
  rw [← hy]
  clear hy
  have SG := Lib.hid (fun W => rsign_any secret y W HS.out (by omega))
  have hpk := pubK_range (secret % 1152921504606845789)
  have hr := pubK_range (nonceS secret y.data.toList)
  have hss := sigS_range secret y.data.toList
  rw [show pubK (nonceS secret y.data.toList) = sigR secret y.data.toList from rfl] at hr
  generalize pubK (secret % 1152921504606845789) = p at PU hpk
  generalize sigR secret y.data.toList = r at SG hr
  generalize sigS secret y.data.toList = s at SG hss
  have hp : I64 p := by unfold I64; omega
  have hr' : I64 r := by unfold I64; omega
  have hs' : I64 s := by unfold I64; omega
  have VA := Lib.hid (fun W => verify_any p y r s W hp hr' hs' (by omega))
  have RA := Lib.hid (fun W => rverify_any p y r s W hp hr' hs' (by omega))
  generalize verB p y.data.toList r s = v at VA RA
  clear SA HS hpk hr hss
  refine (PU.out _).mono ?_
  rintro e ws2 ⟨rfl, rfl⟩
  go_wp2_with fail
  refine (SG.out _).mono ?_
  rintro e w3 ⟨rfl, oo⟩
  replace O := Lib.hid (O.out.trans oo (fun _ _ h => h))
  replace B := Lib.hid (B.out.only oo (fun h => h))
  clear oo
  go_wp2_with fail
  have A := Lib.hid (At.new w3 52 [.int .i64 r, .int .i64 s])
  replace O := Lib.hid (O.out.alloc (.cells [.int .i64 r, .int .i64 s].toArray 52))
  replace B := Lib.hid (B.out.alloc (.cells [.int .i64 r, .int .i64 s].toArray 52))
  generalize w3.alloc (.cells [.int .i64 r, .int .i64 s].toArray 52) = w4 at A B O ⊢
  generalize w3.heap.size = g at A ⊢
  obtain ⟨X, F, FM⟩ := fam w4
  have NE := FM.ne
  have c0 := FM.cell (A.out.cell (i := 0) rfl)
  have c1 := FM.cell (A.out.cell (i := 1) rfl)
  refine FM.region (by kernel_rfl) (by kernel_rfl) ?_
  repeat (first | go_big_quiet_step ((first | (go_at_call 40; exact FM.call (VA.out _)) | (go_at_call 42; exact FM.call (RA.out _)))) | quiet_step (fail))
  refine wpQuiet_nil ?_
  intro x1
  clear c0 c1
  replace A := Lib.hid (A.out.only (FM.own x1) (fun h => h))
  replace B := Lib.hid (B.out.only (FM.own x1) (fun h => h))
  replace O := Lib.hid (O.out.trans (FM.own x1) (fun _ _ h => h))
  generalize F x1 = w5 at A B O ⊢
  clear FM NE
  have c0 := A.out.cell (i := 0) rfl
  have c1 := A.out.cell (i := 1) rfl
  have lb := B.out.lt
  have lg := A.out.lt
  clear VA RA
  cases raw with
  | false =>
    have b0 := B.out.cell (i := 0) rfl
    have b1 := B.out.cell (i := 1) rfl
    have b2 := B.out.cell (i := 2) rfl
    have b3 := B.out.cell (i := 3) rfl
    have b4 := B.out.cell (i := 4) rfl
    go_wp2_with fail
    clear b0 b1 b2 b3 b4 c0 c1
    have hzz : (y ++ qt.extract 0 (min (qt.size : Int) 300).toNat).size ≤ 600 := by rw [ByteArray.size_append, ByteArray.size_extract]; omega
    obtain ⟨z, hz⟩ : ∃ z, z = y ++ qt.extract 0 (min (qt.size : Int) 300).toNat := ⟨_, rfl⟩
    rw [← hz] at hzz ⊢
    have hk := w64_i64 (p + qk)
    have htr := w64_i64 (r + qr)
    have hts := w64_i64 (s + qs)
    obtain ⟨tr, etr⟩ : ∃ tr, tr = wrap64 (r + qr) := ⟨_, rfl⟩
    obtain ⟨ts, ets⟩ : ∃ ts, ts = wrap64 (s + qs) := ⟨_, rfl⟩
    obtain ⟨kk, ekk⟩ : ∃ kk, kk = wrap64 (p + qk) := ⟨_, rfl⟩
    rw [← etr] at htr
    rw [← ets] at hts
    rw [← ekk] at hk
    have V1 := Lib.hid (fun W => verify_any kk z tr ts W hk htr hts (by omega))
    have R1 := Lib.hid (fun W => rverify_any kk z tr ts W hk htr hts (by omega))
    have V2 := Lib.hid (fun W => verify_any kk y r s W hk hr' hs' (by omega))
    have R2 := Lib.hid (fun W => rverify_any kk y r s W hk hr' hs' (by omega))
    have V3 := Lib.hid (fun W => verify_any p z r s W hp hr' hs' (by omega))
    have R3 := Lib.hid (fun W => rverify_any p z r s W hp hr' hs' (by omega))
    have V4 := Lib.hid (fun W => verify_any p y tr ts W hp htr hts (by omega))
    have R4 := Lib.hid (fun W => rverify_any p y tr ts W hp htr hts (by omega))
    generalize verB kk z.data.toList tr ts = v1 at V1 R1
    generalize verB kk y.data.toList r s = v2 at V2 R2
    generalize verB p z.data.toList r s = v3 at V3 R3
    generalize verB p y.data.toList tr ts = v4 at V4 R4
    rw [← etr, ← ets, ← ekk]
    clear etr ets ekk hz
    have T := Lib.hid (At.new w5 52 [.int .i64 tr, .int .i64 ts])
    replace O := Lib.hid (O.out.alloc (.cells [.int .i64 tr, .int .i64 ts].toArray 52))
    replace A := Lib.hid (A.out.alloc (.cells [.int .i64 tr, .int .i64 ts].toArray 52))
    clear B lb lg
    generalize w5.alloc (.cells [.int .i64 tr, .int .i64 ts].toArray 52) = w6 at A T O ⊢
    generalize w5.heap.size = h at T ⊢
    obtain ⟨X, F, FM⟩ := fam w6
    have NE := FM.ne
    have c0 := FM.cell (A.out.cell (i := 0) rfl)
    have c1 := FM.cell (A.out.cell (i := 1) rfl)
    have t0 := FM.cell (T.out.cell (i := 0) rfl)
    have t1 := FM.cell (T.out.cell (i := 1) rfl)
    refine FM.region (by kernel_rfl) (by kernel_rfl) ?_
    repeat (first | go_big_quiet_step ((first | (go_at_call 40; with_reducible exact FM.call (V1.out _)) | (go_at_call 40; with_reducible exact FM.call (V2.out _)) | (go_at_call 40; with_reducible exact FM.call (V3.out _)) | (go_at_call 40; with_reducible exact FM.call (V4.out _)) | (go_at_call 42; with_reducible exact FM.call (R1.out _)) | (go_at_call 42; with_reducible exact FM.call (R2.out _)) | (go_at_call 42; with_reducible exact FM.call (R3.out _)) | (go_at_call 42; with_reducible exact FM.call (R4.out _)))) | quiet_step (fail))
    refine wpQuiet_nil ?_
    intro x2
    go_wp2_with fail
    go_ret
    exact ⟨rfl, O.out.trans (FM.own x2) (fun _ _ h => h)⟩
  | true =>
    have b0 := B.out.cell (i := 0) rfl
    have b1 := B.out.cell (i := 1) rfl
    have b2 := B.out.cell (i := 2) rfl
    have b3 := B.out.cell (i := 3) rfl
    have b4 := B.out.cell (i := 4) rfl
    go_wp2_with fail
    clear b0 b1 b2 b3 b4 c0 c1
    have T := Lib.hid (At.new w5 52 [.int .i64 (wrap64 (r + qr)), .int .i64 (wrap64 (s + qs))])
    have hlo := O.out.size
    have hlw : w.heap.size ≤ w5.heap.size := Nat.le_trans (by omega) (Nat.le_of_lt lb)
    replace O := Lib.hid (O.out.alloc (.cells [.int .i64 (wrap64 (r + qr)), .int .i64 (wrap64 (s + qs))].toArray 52))
    replace A := Lib.hid (A.out.alloc (.cells [.int .i64 (wrap64 (r + qr)), .int .i64 (wrap64 (s + qs))].toArray 52))
    replace B := Lib.hid (B.out.alloc (.cells [.int .i64 (wrap64 (r + qr)), .int .i64 (wrap64 (s + qs))].toArray 52))
    generalize w5.alloc (.cells [.int .i64 (wrap64 (r + qr)), .int .i64 (wrap64 (s + qs))].toArray 52) = w6 at A T O B ⊢
    generalize w5.heap.size = h at T lb lg hlo hlw ⊢
    have b0 := B.out.cell (i := 0) rfl
    have b1 := B.out.cell (i := 1) rfl
    have b2 := B.out.cell (i := 2) rfl
    have b3 := B.out.cell (i := 3) rfl
    have t0 := T.out.cell (i := 0) rfl
    have t1 := T.out.cell (i := 1) rfl
    have f0 := T.out.frozen 0
    have f1 := T.out.frozen 1
    go_region
    go_wp2_with fail
    clear b0 b1 b2 b3 t0 t1 f0 f1
    have hzz : (y ++ qt.extract 0 (min (qt.size : Int) 300).toNat).size ≤ 600 := by rw [ByteArray.size_append, ByteArray.size_extract]; omega
    obtain ⟨z, hz⟩ : ∃ z, z = y ++ qt.extract 0 (min (qt.size : Int) 300).toNat := ⟨_, rfl⟩
    rw [← hz] at hzz ⊢
    have hk := Q3.out
    have htr := Q1.out
    have hts := Q2.out
    obtain ⟨tr, etr⟩ : ∃ tr, tr = qr := ⟨_, rfl⟩
    obtain ⟨ts, ets⟩ : ∃ ts, ts = qs := ⟨_, rfl⟩
    obtain ⟨kk, ekk⟩ : ∃ kk, kk = qk := ⟨_, rfl⟩
    rw [← etr] at htr
    rw [← ets] at hts
    rw [← ekk] at hk
    have V1 := Lib.hid (fun W => verify_any kk z tr ts W hk htr hts (by omega))
    have R1 := Lib.hid (fun W => rverify_any kk z tr ts W hk htr hts (by omega))
    have V2 := Lib.hid (fun W => verify_any kk y r s W hk hr' hs' (by omega))
    have R2 := Lib.hid (fun W => rverify_any kk y r s W hk hr' hs' (by omega))
    have V3 := Lib.hid (fun W => verify_any p z r s W hp hr' hs' (by omega))
    have R3 := Lib.hid (fun W => rverify_any p z r s W hp hr' hs' (by omega))
    have V4 := Lib.hid (fun W => verify_any p y tr ts W hp htr hts (by omega))
    have R4 := Lib.hid (fun W => rverify_any p y tr ts W hp htr hts (by omega))
    generalize verB kk z.data.toList tr ts = v1 at V1 R1
    generalize verB kk y.data.toList r s = v2 at V2 R2
    generalize verB p z.data.toList r s = v3 at V3 R3
    generalize verB p y.data.toList tr ts = v4 at V4 R4
    have T7 : Hid (At (((w6.setCell ⟨h, 0, none⟩ (.int .i64 qr)).setCell ⟨h, 1, none⟩ (.int .i64 qs)).drew) h 52 [.int .i64 qr, .int .i64 qs]) := Lib.hid ((T.out.put 0 (.int .i64 qr)).put 1 (.int .i64 qs)).drew
    have A7 : Hid (At (((w6.setCell ⟨h, 0, none⟩ (.int .i64 qr)).setCell ⟨h, 1, none⟩ (.int .i64 qs)).drew) g 52 [.int .i64 r, .int .i64 s]) := Lib.hid ((A.out.far (p := ⟨h, 0, none⟩) (by dsimp only; omega) _).far (p := ⟨h, 1, none⟩) (by dsimp only; omega) _).drew
    replace O : Hid (Only (fun _ => False) w (((w6.setCell ⟨h, 0, none⟩ (.int .i64 qr)).setCell ⟨h, 1, none⟩ (.int .i64 qs)).drew)) := Lib.hid ((O.out.put (p := ⟨h, 0, none⟩) (fun hh => absurd hh (by dsimp only; omega)) _).put (p := ⟨h, 1, none⟩) (fun hh => absurd hh (by dsimp only; omega)) _).drew
    clear A T B
    generalize ((w6.setCell ⟨h, 0, none⟩ (.int .i64 qr)).setCell ⟨h, 1, none⟩ (.int .i64 qs)).drew = w7 at A7 T7 O ⊢
    rw [← etr, ← ets] at T7
    try rw [← ekk]
    clear etr ets ekk hz
    obtain ⟨X, F, FM⟩ := fam w7
    have NE := FM.ne
    have c0 := FM.cell (A7.out.cell (i := 0) rfl)
    have c1 := FM.cell (A7.out.cell (i := 1) rfl)
    have t0 := FM.cell (T7.out.cell (i := 0) rfl)
    have t1 := FM.cell (T7.out.cell (i := 1) rfl)
    refine FM.region (by kernel_rfl) (by kernel_rfl) ?_
    repeat (first | go_big_quiet_step ((first | (go_at_call 40; with_reducible exact FM.call (V1.out _)) | (go_at_call 40; with_reducible exact FM.call (V2.out _)) | (go_at_call 40; with_reducible exact FM.call (V3.out _)) | (go_at_call 40; with_reducible exact FM.call (V4.out _)) | (go_at_call 42; with_reducible exact FM.call (R1.out _)) | (go_at_call 42; with_reducible exact FM.call (R2.out _)) | (go_at_call 42; with_reducible exact FM.call (R3.out _)) | (go_at_call 42; with_reducible exact FM.call (R4.out _)))) | quiet_step (fail))
    refine wpQuiet_nil ?_
    intro x2
    go_wp2_with fail
    go_ret
    exact ⟨rfl, O.out.trans (FM.own x2) (fun _ _ h => h)⟩
end Go.Proofs.YtjmdfipofgmakaaDoor
