/-
  SignOne: walk.
-/
import Derived.Test.YtjmdfipofgmakaaDoorSy
namespace Go.Proofs.YtjmdfipofgmakaaDoor
open Go.RowKit Go.Shelf
set_option linter.unusedVariables false
set_option linter.unusedSimpArgs false

theorem at2 (W : World) (t : TypeId) (x y : List Value) : Ats t ((W.alloc (.cells x.toArray t)).alloc (.cells y.toArray t)) [(W.heap.size, x), (W.heap.size + 1, y)] := by
  have e1 : (W.alloc (.cells x.toArray t)).heap.size = W.heap.size + 1 := by simp
  have a1 := At.new W t x
  have a2 := At.new (W.alloc (.cells x.toArray t)) t y
  rw [e1] at a2
  exact ⟨a1.only ((Only.refl (fun _ => False) (W.alloc (.cells x.toArray t))).alloc (.cells y.toArray t)) (fun h => h), a2, trivial⟩
set_option maxRecDepth 100000 in
set_option maxHeartbeats 1000000 in
theorem signOne_any (seed text : ByteArray) (more : Int) (w : World) (ht : Tab w) (hm : MaxL w) (hs : seed.size ≤ 140737488351900) (hmore : I64 more) :
    Calls Tryd.prog 11 #[.string seed, .string text, .int .i64 more] w fun e w' => e = .returned (.bool true) ∧ Only (fun _ => False) w w' := by
  have SA := Lib.hid (sanity5 w ht hm)
  have HS := Lib.hid hs
  have HM := Lib.hid hmore
  clear ht hm hs hmore
  go_enter Tryd.func11, Tryd.ntmps11
  go_wp2_with fail
  refine SA.out.mono ?_
  rintro e w1 ⟨rfl, o1⟩
  have O1 := Lib.hid o1
  clear o1 SA
  go_wp2_with fail
  obtain ⟨y, hy⟩ : ∃ y, y = text.extract 0 (min (text.size : Int) 300).toNat := ⟨_, rfl⟩
  have hyz : y.size ≤ 300 := by rw [hy, ByteArray.size_extract]; omega
  rw [← hy]
  clear hy
  have KA := fun W => key_any seed W HS.out
  have ka := keyS_range seed.data.toList
  have hpk := pubK_mem (keyS seed.data.toList)
  obtain ⟨a, ha⟩ : ∃ a, a = keyS seed.data.toList := ⟨_, rfl⟩
  rw [← ha] at KA ka hpk
  have hp := memB_range hpk
  have SG := fun W => sign_any a y W (by unfold I64; omega) (by omega)
  have VS := ver_sign a y.data.toList
  rw [show a % 1152921504606845789 = a by omega] at VS
  have hrr := memB_range (pubK_mem (nonceS a y.data.toList))
  have hss := sigS_range a y.data.toList
  obtain ⟨p, hpe⟩ : ∃ p, p = pubK a := ⟨_, rfl⟩
  obtain ⟨r, hre⟩ : ∃ r, r = sigR a y.data.toList := ⟨_, rfl⟩
  obtain ⟨s, hse⟩ : ∃ s, s = sigS a y.data.toList := ⟨_, rfl⟩
  rw [show pubK (nonceS a y.data.toList) = r from hre.symm] at hrr
  rw [← hpe] at KA hp
  rw [← hre, ← hse] at SG
  rw [← hpe, ← hre, ← hse] at VS
  rw [← hse] at hss
  have KK := Lib.hid KA
  have SS := Lib.hid SG
  have AD := Lib.hid (fun W => radd_any s more 1152921504606845789 W (by omega) (by omega) (by unfold I64; omega) HM.out)
  have hvr : 0 ≤ (s + more) % 1152921504606845789 ∧ (s + more) % 1152921504606845789 < 1152921504606845789 := by omega
  obtain ⟨v, hv⟩ : ∃ v, v = (s + more) % 1152921504606845789 := ⟨_, rfl⟩
  rw [← hv] at AD hvr
  have V1 := Lib.hid (show ∀ W, Calls Tryd.prog 40 #[.int .i64 p, .string y, .agg #[.int .i64 r, .int .i64 s]] W fun e w' => e = .returned (.bool true) ∧ Only (fun _ => False) W w' from fun W => by
    have := verify_any p y r s W (by unfold I64; omega) (by unfold I64; omega) (by unfold I64; omega) (by omega)
    rw [VS] at this; exact this)
  have V2 := Lib.hid (show v ≠ s → ∀ W, Calls Tryd.prog 40 #[.int .i64 p, .string y, .agg #[.int .i64 r, .int .i64 v]] W fun e w' => e = .returned (.bool false) ∧ Only (fun _ => False) W w' from fun hne W => by
    have := verify_any p y r v W (by unfold I64; omega) (by unfold I64; omega) (by unfold I64; omega) (by omega)
    rw [show verB p y.data.toList r v = false by
      cases hb : verB p y.data.toList r v
      · rfl
      · exact absurd (ver_one VS hb).symm hne] at this
    exact this)
  clear KA SG VS ha ka hpk hp hrr hss hpe hre hse hyz HS HM hv hvr
  refine (KK.out _).mono ?_
  rintro e w2 ⟨rfl, o2⟩
  have O2 := Lib.hid (O1.out.trans o2 (fun _ _ h => h))
  clear o2 O1 KK
  go_wp2_with fail
  refine (SS.out _).mono ?_
  rintro e w3 ⟨rfl, o3⟩
  have O3 := Lib.hid (O2.out.trans o3 (fun _ _ h => h))
  clear o3 O2 SS
  go_wp2_with fail
  refine (AD.out _).mono ?_
  rintro e w4 ⟨rfl, rfl⟩
  have A3 := Lib.hid (at2 w3 52 [.int .i64 r, .int .i64 s] [.int .i64 r, .int .i64 s])
  have O4 := Lib.hid (O3.out.trans (((Only.refl (fun _ => False) w3).alloc (.cells [.int .i64 r, .int .i64 s].toArray 52)).alloc (.cells [.int .i64 r, .int .i64 s].toArray 52)) (fun _ _ h => h))
  have hz3 := O3.out.size
  have c1 := A3.out.2.1.cell (i := 1) rfl
  have f1 := A3.out.2.1.frozen 1
  by_cases hne : v = s
  · subst hne
    go_wp2_with fail
    refine (V1.out _).mono ?_
    rintro e w5 ⟨rfl, o5⟩
    have A5 := Lib.hid (A3.out.only o5)
    have O5 := Lib.hid (O4.out.trans o5 (fun _ _ h => h))
    clear o5 c1 f1 A3 O4
    have c0 := A5.out.1.cell (i := 1) rfl
    have c1 := A5.out.2.1.cell (i := 1) rfl
    go_wp2_with fail
    go_ret
    exact ⟨rfl, O5.out⟩
  · have hb : (v == s) = false := by simpa using hne
    have B3 := Lib.hid (at2 w3 52 [.int .i64 r, .int .i64 s] [.int .i64 r, .int .i64 v])
    have O4' := Lib.hid (O3.out.trans (((Only.refl (fun _ => False) w3).alloc (.cells [.int .i64 r, .int .i64 s].toArray 52)).alloc (.cells [.int .i64 r, .int .i64 v].toArray 52)) (fun _ _ h => h))
    go_wp2_with fail
    refine (V1.out _).mono ?_
    rintro e w5 ⟨rfl, o5⟩
    have A5 := Lib.hid (B3.out.only o5)
    have O5 := Lib.hid (O4'.out.trans o5 (fun _ _ h => h))
    clear o5 c1 f1 A3 B3 O4 O4'
    have c0 := A5.out.1.cell (i := 1) rfl
    have d0 := A5.out.2.1.cell (i := 0) rfl
    have c1 := A5.out.2.1.cell (i := 1) rfl
    go_wp2_with fail
    refine (V2.out hne _).mono ?_
    rintro e w6 ⟨rfl, o6⟩
    have O6 := Lib.hid (O5.out.trans o6 (fun _ _ h => h))
    go_wp2_with fail
    go_ret
    exact ⟨rfl, O6.out⟩
end Go.Proofs.YtjmdfipofgmakaaDoor
