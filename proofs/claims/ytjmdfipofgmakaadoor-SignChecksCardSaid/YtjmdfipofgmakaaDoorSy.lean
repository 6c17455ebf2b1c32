/-
  sorteslaw05.sanity: contract.
-/
import Derived.Test.YtjmdfipofgmakaaDoorSx
namespace Go.Proofs.YtjmdfipofgmakaaDoor
open Go.RowKit Go.Shelf
set_option linter.unusedVariables false
set_option linter.unusedSimpArgs false

theorem at3 (W : World) (t : TypeId) (x y z : List Value) : Ats t (((W.alloc (.cells x.toArray t)).alloc (.cells y.toArray t)).alloc (.cells z.toArray t)) [(W.heap.size, x), (W.heap.size + 1, y), (W.heap.size + 1 + 1, z)] := by
  have e1 : (W.alloc (.cells x.toArray t)).heap.size = W.heap.size + 1 := by simp
  have e2 : ((W.alloc (.cells x.toArray t)).alloc (.cells y.toArray t)).heap.size = W.heap.size + 1 + 1 := by simp
  have a1 := At.new W t x
  have a2 := At.new (W.alloc (.cells x.toArray t)) t y
  have a3 := At.new ((W.alloc (.cells x.toArray t)).alloc (.cells y.toArray t)) t z
  rw [e1] at a2
  rw [e2] at a3
  have o1 := ((Only.refl (fun _ => False) (W.alloc (.cells x.toArray t))).alloc (.cells y.toArray t)).alloc (.cells z.toArray t)
  have o2 := (Only.refl (fun _ => False) ((W.alloc (.cells x.toArray t)).alloc (.cells y.toArray t))).alloc (.cells z.toArray t)
  exact ⟨a1.only o1 (fun h => h), a2.only o2 (fun h => h), a3, trivial⟩
set_option maxRecDepth 100000 in
set_option maxHeartbeats 2000000 in
theorem sanity5 (w : World) (ht : Tab w) (hm : MaxL w) :
    Calls Tryd.prog 35 #[] w fun e w' => e = .returned (.bool true) ∧ Only (fun _ => False) w w' := by
  have KA := fun W => key_any ⟨#[115]⟩ W (by decide)
  have ka := keyS_range (ByteArray.mk #[115]).data.toList
  have hpk := pubK_mem (keyS (ByteArray.mk #[115]).data.toList)
  obtain ⟨a, ha⟩ : ∃ a, a = keyS (ByteArray.mk #[115]).data.toList := ⟨_, rfl⟩
  rw [← ha] at KA ka hpk
  have hp := memB_range hpk
  have SG := fun W => sign_any a ⟨#[116]⟩ W (by unfold I64; omega) (by decide)
  have VS := ver_sign a (ByteArray.mk #[116]).data.toList
  rw [show a % 1152921504606845789 = a by omega] at VS
  have hrr := memB_range (pubK_mem (nonceS a (ByteArray.mk #[116]).data.toList))
  have hss := sigS_range a (ByteArray.mk #[116]).data.toList
  obtain ⟨p, hpe⟩ : ∃ p, p = pubK a := ⟨_, rfl⟩
  obtain ⟨r, hre⟩ : ∃ r, r = sigR a (ByteArray.mk #[116]).data.toList := ⟨_, rfl⟩
  obtain ⟨s, hse⟩ : ∃ s, s = sigS a (ByteArray.mk #[116]).data.toList := ⟨_, rfl⟩
  rw [show pubK (nonceS a (ByteArray.mk #[116]).data.toList) = r from hre.symm] at hrr
  rw [← hpe] at KA hp
  rw [← hre, ← hse] at SG
  rw [← hpe, ← hre, ← hse] at VS
  rw [← hse] at hss
  have KK := Lib.hid KA
  have SS := Lib.hid SG
  have V1 := Lib.hid (show ∀ W, Calls Tryd.prog 40 #[.int .i64 p, .string ⟨#[116]⟩, .agg #[.int .i64 r, .int .i64 s]] W fun e w' => e = .returned (.bool true) ∧ Only (fun _ => False) W w' from fun W => by
    have := verify_any p ⟨#[116]⟩ r s W (by unfold I64; omega) (by unfold I64; omega) (by unfold I64; omega) (by decide)
    rw [VS] at this; exact this)
  have V2 := Lib.hid (show ∀ W, Calls Tryd.prog 40 #[.int .i64 1, .string ⟨#[116]⟩, .agg #[.int .i64 1, .int .i64 0]] W fun e w' => e = .returned (.bool true) ∧ Only (fun _ => False) W w' from fun W => by
    have := verify_any 1 ⟨#[116]⟩ 1 0 W (by unfold I64; omega) (by unfold I64; omega) (by unfold I64; omega) (by decide)
    rw [verB_one] at this; exact this)
  have V3 := Lib.hid (show ∀ W, Calls Tryd.prog 40 #[.int .i64 0, .string ⟨#[116]⟩, .agg #[.int .i64 1, .int .i64 0]] W fun e w' => e = .returned (.bool false) ∧ Only (fun _ => False) W w' from fun W => by
    have := verify_any 0 ⟨#[116]⟩ 1 0 W (by unfold I64; omega) (by unfold I64; omega) (by unfold I64; omega) (by decide)
    rw [verB_zero] at this; exact this)
  have V4 := Lib.hid (show ∀ W, Calls Tryd.prog 40 #[.int .i64 1, .string ⟨#[116]⟩, .agg #[.int .i64 1, .int .i64 1152921504606845789]] W fun e w' => e = .returned (.bool false) ∧ Only (fun _ => False) W w' from fun W => by
    have := verify_any 1 ⟨#[116]⟩ 1 1152921504606845789 W (by unfold I64; omega) (by unfold I64; omega) (by unfold I64; omega) (by decide)
    rw [verB_high _ _ _ _ (by omega)] at this; exact this)
  have R1 := Lib.hid (show ∀ W, Only (fun _ => False) w W → Calls Tryd.prog 46 #[.string ⟨#[49, 50, 46, 51]⟩] W fun e w' => e = .returned (.tuple #[.agg #[.int .i64 12, .int .i64 3], .bool true]) ∧ Only (fun _ => False) W w' from fun W o => by
    have := read_any ⟨#[49, 50, 46, 51]⟩ ⟨#[49, 50]⟩ ⟨#[51]⟩ 12 3 W (ht.only o) (hm.only o) (by decide) (by decide) (by decide) (by unfold I64; omega) (by unfold I64; omega) cut1 par1 par3
    rw [if_pos txt1] at this; exact this)
  have R2 := Lib.hid (show ∀ W, Only (fun _ => False) w W → Calls Tryd.prog 46 #[.string ⟨#[48, 49, 50, 46, 51]⟩] W fun e w' => e = .returned (.tuple #[.agg #[.int .i64 0, .int .i64 0], .bool false]) ∧ Only (fun _ => False) W w' from fun W o => by
    have := read_any ⟨#[48, 49, 50, 46, 51]⟩ ⟨#[48, 49, 50]⟩ ⟨#[51]⟩ 12 3 W (ht.only o) (hm.only o) (by decide) (by decide) (by decide) (by unfold I64; omega) (by unfold I64; omega) cut2 par2 par3
    rw [if_neg txt2] at this; exact this)
  have TX := Lib.hid (show ∀ W, Only (fun _ => False) w W → Calls Tryd.prog 45 #[.agg #[.int .i64 12, .int .i64 (-3)]] W fun e w' => e = .returned (.string ⟨#[49, 50, 46, 45, 51]⟩) ∧ Only (fun _ => False) W w' from fun W o => by
    have := text_any 12 (-3) (by unfold I64; omega) (by unfold I64; omega) W (ht.only o)
    rw [txt3] at this; exact this)
  clear KA SG VS ha ka hpk hp hrr hss hpe hre hse ht hm
  go_enter Tryd.func35, Tryd.ntmps35
  go_wp2_with fail
  refine (KK.out _).mono ?_
  rintro e w1 ⟨rfl, o1⟩
  have O1 := Lib.hid o1
  clear o1 KK
  go_wp2_with fail
  refine (SS.out _).mono ?_
  rintro e w2 ⟨rfl, o2⟩
  have O2 := Lib.hid (O1.out.trans o2 (fun _ _ h => h))
  clear o2 O1 SS
  go_wp2_with fail
  have o2' : Only (fun _ => False) w2 (((w2.alloc (.cells [.int .i64 r, .int .i64 s].toArray 52)).alloc (.cells [.int .i64 1, .int .i64 0].toArray 52)).alloc (.cells [.int .i64 1, .int .i64 1152921504606845789].toArray 52)) := ((((Only.refl _ w2).alloc _).alloc _).alloc _)
  have A2 := Lib.hid (at3 w2 52 [.int .i64 r, .int .i64 s] [.int .i64 1, .int .i64 0] [.int .i64 1, .int .i64 1152921504606845789])
  refine (R1.out _ (O2.out.trans o2' (fun _ _ h => h))).mono ?_
  rintro e w3 ⟨rfl, o3⟩
  have A3 := Lib.hid (A2.out.only o3)
  have O3 := Lib.hid ((O2.out.trans o2' (fun _ _ h => h)).trans o3 (fun _ _ h => h))
  clear o3 o2' A2 O2 R1
  go_wp2_with fail
  have o3' := (Only.refl (fun _ => False) w3).alloc (.cells [.int .i64 12, .int .i64 3].toArray 52)
  have A3' := Lib.hid (show Ats 52 _ [(w2.heap.size, [.int .i64 r, .int .i64 s]), (w2.heap.size + 1, [.int .i64 1, .int .i64 0]), (w2.heap.size + 1 + 1, [.int .i64 1, .int .i64 1152921504606845789]), (w3.heap.size, [.int .i64 12, .int .i64 3])] from ⟨A3.out.1.only o3' (fun h => h), A3.out.2.1.only o3' (fun h => h), A3.out.2.2.1.only o3' (fun h => h), At.new w3 _ _, trivial⟩)
  refine (R2.out _ (O3.out.trans o3' (fun _ _ h => h))).mono ?_
  rintro e w4 ⟨rfl, o4⟩
  have A4 := Lib.hid (A3'.out.only o4)
  have O4 := Lib.hid ((O3.out.trans o3' (fun _ _ h => h)).trans o4 (fun _ _ h => h))
  clear o4 o3' A3 A3' O3 R2
  have o4' := (Only.refl (fun _ => False) w4).alloc (.cells [.int .i64 0, .int .i64 0].toArray 52)
  have A5 := Lib.hid (A4.out.only o4')
  have O5 := Lib.hid (O4.out.trans o4' (fun _ _ h => h))
  clear o4' A4 O4
  have c0 := A5.out.1.cell (i := 0) rfl
  have c1 := A5.out.1.cell (i := 1) rfl
  go_wp2_with fail
  refine (V1.out _).mono ?_
  rintro e w6 ⟨rfl, o⟩
  have A6 := Lib.hid (A5.out.only o)
  have O6 := Lib.hid (O5.out.trans o (fun _ _ h => h))
  clear o A5 O5 V1 c0 c1
  have c0 := A6.out.2.1.cell (i := 0) rfl
  have c1 := A6.out.2.1.cell (i := 1) rfl
  go_wp2_with fail
  refine (V2.out _).mono ?_
  rintro e w7 ⟨rfl, o⟩
  have A7 := Lib.hid (A6.out.only o)
  have O7 := Lib.hid (O6.out.trans o (fun _ _ h => h))
  clear o A6 O6 V2 c0 c1
  have c0 := A7.out.2.1.cell (i := 0) rfl
  have c1 := A7.out.2.1.cell (i := 1) rfl
  go_wp2_with fail
  refine (V3.out _).mono ?_
  rintro e w8 ⟨rfl, o⟩
  have A8 := Lib.hid (A7.out.only o)
  have O8 := Lib.hid (O7.out.trans o (fun _ _ h => h))
  clear o A7 O7 V3 c0 c1
  have c0 := A8.out.2.2.1.cell (i := 0) rfl
  have c1 := A8.out.2.2.1.cell (i := 1) rfl
  go_wp2_with fail
  refine (V4.out _).mono ?_
  rintro e w9 ⟨rfl, o⟩
  have A9 := Lib.hid (A8.out.only o)
  have O9 := Lib.hid (O8.out.trans o (fun _ _ h => h))
  clear o A8 O8 V4 c0 c1
  have c0 := A9.out.2.2.2.1.cell (i := 0) rfl
  have c1 := A9.out.2.2.2.1.cell (i := 1) rfl
  go_wp2_with fail
  refine (TX.out _ O9.out).mono ?_
  rintro e w10 ⟨rfl, o⟩
  have O10 := Lib.hid (O9.out.trans o (fun _ _ h => h))
  have A10 := Lib.hid (A9.out.only o)
  clear o A9 O9 TX c0 c1
  have c0 := A10.out.2.2.2.1.cell (i := 0) rfl
  have c1 := A10.out.2.2.2.1.cell (i := 1) rfl
  go_wp2_with fail
  go_ret
  exact ⟨rfl, O10.out⟩
end Go.Proofs.YtjmdfipofgmakaaDoor
