/-
  SignVerifies: walk.
-/
import Derived.Test.YtjmdfipofgmakaaDoorSy
namespace Go.Proofs.YtjmdfipofgmakaaDoor
open Go.RowKit Go.Shelf
set_option linter.unusedVariables false
set_option linter.unusedSimpArgs false

set_option maxRecDepth 100000 in
set_option maxHeartbeats 1000000 in
theorem signVerifies_any (seed text : ByteArray) (w : World) (ht : Tab w) (hm : MaxL w) (hs : seed.size ≤ 140737488351900) :
    Calls Tryd.prog 8 #[.string seed, .string text] w fun e w' => e = .returned (.bool true) ∧ Only (fun _ => False) w w' := by
  have SA := Lib.hid (sanity5 w ht hm)
  have HS := Lib.hid hs
  clear ht hm hs
  go_enter Tryd.func8, Tryd.ntmps8
  go_wp2_with fail
  refine SA.out.mono ?_
  rintro e w1 ⟨rfl, o1⟩
  have O1 := Lib.hid o1
  clear o1 SA
  go_wp2_with fail
  obtain ⟨y, hy⟩ : ∃ y, y = text.extract 0 (min (text.size : Int) 300).toNat := ⟨_, rfl⟩
  have hyz : y.size ≤ 300 := by rw [hy, ByteArray.size_extract]; omega
  rw [← hy]
  clear hy
  have KA := fun W => key_any seed W HS.out
  have ka := keyS_range seed.data.toList
  have hpk := pubK_mem (keyS seed.data.toList)
  obtain ⟨a, ha⟩ : ∃ a, a = keyS seed.data.toList := ⟨_, rfl⟩
  rw [← ha] at KA ka hpk
  have hp := memB_range hpk
  have SG := fun W => sign_any a y W (by unfold I64; omega) (by omega)
  have VS := ver_sign a y.data.toList
  rw [show a % 1152921504606845789 = a by omega] at VS
  have hrr := memB_range (pubK_mem (nonceS a y.data.toList))
  have hss := sigS_range a y.data.toList
  obtain ⟨p, hpe⟩ : ∃ p, p = pubK a := ⟨_, rfl⟩
  obtain ⟨r, hre⟩ : ∃ r, r = sigR a y.data.toList := ⟨_, rfl⟩
  obtain ⟨s, hse⟩ : ∃ s, s = sigS a y.data.toList := ⟨_, rfl⟩
  rw [show pubK (nonceS a y.data.toList) = r from hre.symm] at hrr
  rw [← hpe] at KA hp
  rw [← hre, ← hse] at SG
  rw [← hpe, ← hre, ← hse] at VS
  rw [← hse] at hss
  have KK := Lib.hid KA
  have SS := Lib.hid SG
  have V1 := Lib.hid (show ∀ W, Calls Tryd.prog 40 #[.int .i64 p, .string y, .agg #[.int .i64 r, .int .i64 s]] W fun e w' => e = .returned (.bool true) ∧ Only (fun _ => False) W w' from fun W => by
    have := verify_any p y r s W (by unfold I64; omega) (by unfold I64; omega) (by unfold I64; omega) (by omega)
    rw [VS] at this; exact this)
  clear KA SG VS ha ka hpk hp hrr hss hpe hre hse hyz HS
  refine (KK.out _).mono ?_
  rintro e w2 ⟨rfl, o2⟩
  have O2 := Lib.hid (O1.out.trans o2 (fun _ _ h => h))
  clear o2 O1 KK
  go_wp2_with fail
  refine (SS.out _).mono ?_
  rintro e w3 ⟨rfl, o3⟩
  have O3 := Lib.hid (O2.out.trans o3 (fun _ _ h => h))
  clear o3 O2 SS
  go_wp2_with fail
  refine (V1.out _).mono ?_
  rintro e w4 ⟨rfl, o4⟩
  have O4 := Lib.hid (O3.out.trans o4 (fun _ _ h => h))
  clear o4 O3 V1
  go_wp2_with fail
  go_ret
  exact ⟨rfl, O4.out⟩
end Go.Proofs.YtjmdfipofgmakaaDoor
