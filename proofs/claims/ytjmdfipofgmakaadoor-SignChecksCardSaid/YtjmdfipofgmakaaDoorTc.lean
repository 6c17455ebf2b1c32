/-
  SignKeys, SignSigns, SignMany: walks.
-/
import Derived.Test.YtjmdfipofgmakaaDoorRg
import Derived.Test.YtjmdfipofgmakaaDoorSy
import Derived.Test.YtjmdfipofgmakaaDoorEs
namespace Go.Proofs.YtjmdfipofgmakaaDoor
open Go.RowKit Go.Shelf
set_option linter.unusedVariables false
set_option linter.unusedSimpArgs false

set_option maxRecDepth 100000 in
set_option maxHeartbeats 1000000 in
theorem signKeys_any (seed : ByteArray) (w : World) (ht : Tab w) (hm : MaxL w) :
    Calls Tryd.prog 6 #[.string seed] w fun e w' => e = .returned (.bool true) ∧ Only (fun _ => False) w w' := by
  have SA := Lib.hid (sanity5 w ht hm)
  have O := Lib.hid (Only.refl (fun _ => False) w)
  clear ht hm
  go_enter Tryd.func6, Tryd.ntmps6
  go_wp2_with fail
  refine (SA.out).mono ?_
  rintro e wc1 ⟨rfl, oo⟩
  replace O := Lib.hid (O.out.trans oo (fun _ _ h => h))
  clear oo
  go_wp2_with fail
  obtain ⟨y, hy⟩ : ∃ y, y = seed.extract 0 (min (seed.size : Int) 300).toNat := ⟨_, rfl⟩
  have hyz : y.size ≤ 300 := by rw [hy, ByteArray.size_extract]; omega
  rw [← hy]
  clear hy
  have KA := Lib.hid (fun W => key_any y W (by omega))
  have RK := Lib.hid (fun W => rkey_any y W (by omega))
  have ka := keyS_range y.data.toList
  obtain ⟨a, ha⟩ : ∃ a, a = keyS y.data.toList := ⟨_, rfl⟩
  rw [← ha] at KA RK ka
  have PO := Lib.hid (fun W => rpow_any 4 a 2305843009213691579 W (by omega) (by omega) (by unfold I64; omega) (by omega) (by omega))
  rw [show pm 4 a.toNat 2305843009213691579 = pubK a from rfl] at PO
  generalize pubK a = b at KA RK PO
  have h0 : 0 < a := by omega
  have h1 : a < 1152921504606845789 := by omega
  clear ha ka hyz SA
  refine (KA.out _).mono ?_
  rintro e wc2 ⟨rfl, oo⟩
  replace O := Lib.hid (O.out.trans oo (fun _ _ h => h))
  clear oo
  go_wp2_with fail
  refine (RK.out _).mono ?_
  rintro e wc3 ⟨rfl, oo⟩
  replace O := Lib.hid (O.out.trans oo (fun _ _ h => h))
  clear oo
  go_wp2_with fail
  refine (PO.out _).mono ?_
  rintro e ws4 ⟨rfl, rfl⟩
  go_wp2_with fail
  go_ret
  exact ⟨rfl, O.out⟩
set_option maxRecDepth 100000 in
set_option maxHeartbeats 1000000 in
theorem signSigns_any (secret : Int) (text : ByteArray) (w : World) (ht : Tab w) (hm : MaxL w) (hs : I64 secret) :
    Calls Tryd.prog 7 #[.int .i64 secret, .string text] w fun e w' => e = .returned (.bool true) ∧ Only (fun _ => False) w w' := by
  have SA := Lib.hid (sanity5 w ht hm)
  have O := Lib.hid (Only.refl (fun _ => False) w)
  have HS := Lib.hid hs
  clear ht hm hs
  go_enter Tryd.func7, Tryd.ntmps7
  go_wp2_with fail
  refine (SA.out).mono ?_
  rintro e wc5 ⟨rfl, oo⟩
  replace O := Lib.hid (O.out.trans oo (fun _ _ h => h))
  clear oo
  go_wp2_with fail
  obtain ⟨y, hy⟩ : ∃ y, y = text.extract 0 (min (text.size : Int) 300).toNat := ⟨_, rfl⟩
  have hyz : y.size ≤ 300 := by rw [hy, ByteArray.size_extract]; omega
  rw [← hy]
  clear hy
  have KA := Lib.hid (fun W => sign_any secret y W HS.out (by omega))
  have RK := Lib.hid (fun W => rsign_any secret y W HS.out (by omega))
  generalize sigR secret y.data.toList = r at KA RK
  generalize sigS secret y.data.toList = s at KA RK
  clear hyz SA HS
  refine (KA.out _).mono ?_
  rintro e wc6 ⟨rfl, oo⟩
  replace O := Lib.hid (O.out.trans oo (fun _ _ h => h))
  clear oo
  go_wp2_with fail
  refine (RK.out _).mono ?_
  rintro e w9 ⟨rfl, oo⟩
  replace O := Lib.hid (O.out.trans oo (fun _ _ h => h))
  clear oo
  go_wp2_with (refine wpl_bin (o := ⟨some 20, _, _, _, _, _⟩) rfl .eql 52 52 (.tmp 16) (.tmp 19) rfl _ _ _ rfl rfl (guard_sig _ _ _ _ _ _ _) (eql_sig_same _ _ _) ?_)
  go_ret
  exact ⟨rfl, O.out⟩
set_option maxRecDepth 100000 in
set_option maxHeartbeats 1000000 in
theorem ver_with (secret : Int) (text : List UInt8) (n : Int) (h0 : 0 ≤ n) : verB (pubK (secret % 1152921504606845789)) text (pubK n) (sigW secret text n) = true := by
  have hs := sigW_range secret n text
  have he := chal_range (pubK n) (pubK (secret % 1152921504606845789)) text
  have h := sig_int n (secret % 1152921504606845789) (chal (pubK n) (pubK (secret % 1152921504606845789)) text) h0 (by omega) he.1
  unfold verB
  rw [pubK_mem, pubK_mem, decide_eq_true hs.1, decide_eq_true hs.2, Bool.true_and, Bool.true_and, Bool.true_and, Bool.true_and, beq_iff_eq]
  exact h
set_option maxRecDepth 100000 in
set_option maxHeartbeats 1000000 in
theorem signMany_any (secret : Int) (text : ByteArray) (n : Int) (w : World) (ht : Tab w) (hm : MaxL w) (hs : I64 secret) (hn : I64 n) :
    Calls Tryd.prog 10 #[.int .i64 secret, .string text, .int .i64 n] w fun e w' => e = .returned (.bool true) ∧ Only (fun _ => False) w w' := by
  have SA := Lib.hid (sanity5 w ht hm)
  have O := Lib.hid (Only.refl (fun _ => False) w)
  have HS := Lib.hid hs
  have EX := Lib.hid (fun W => rexpo_any n W hn)
  have hx : 0 ≤ n % 1152921504606845789 ∧ n % 1152921504606845789 < 1152921504606845789 := by omega
  generalize n % 1152921504606845789 = x at EX hx
  have PU := Lib.hid (fun W => rpublic_any secret W hs)
  clear ht hm hs
  go_enter Tryd.func10, Tryd.ntmps10
  go_wp2_with fail
  refine (SA.out).mono ?_
  rintro e wc7 ⟨rfl, oo⟩
  replace O := Lib.hid (O.out.trans oo (fun _ _ h => h))
  clear oo
  go_wp2_with fail
  obtain ⟨y, hy⟩ : ∃ y, y = text.extract 0 (min (text.size : Int) 300).toNat := ⟨_, rfl⟩
  have hyz : y.size ≤ 300 := by rw [hy, ByteArray.size_extract]; omega
  rw [← hy]
  clear hy
  have SW := Lib.hid (fun W => rsignWith_any secret y x W HS.out hx.1 hx.2 (by omega))
  have VW := ver_with secret y.data.toList x hx.1
  have hpk := pubK_range (secret % 1152921504606845789)
  have hr := pubK_range x
  have hss := sigW_range secret x y.data.toList
  generalize pubK (secret % 1152921504606845789) = p at PU VW hpk
  generalize pubK x = r at SW VW hr
  generalize sigW secret y.data.toList x = s at SW VW hss
  have VE := Lib.hid (fun W => verify_any p y r s W (by unfold I64; omega) (by unfold I64; omega) (by unfold I64; omega) (by omega))
  rw [VW] at VE
  clear hyz SA HS VW hpk hr hss hx
  refine (EX.out _).mono ?_
  rintro e ws8 ⟨rfl, rfl⟩
  go_wp2_with fail
  refine (SW.out _).mono ?_
  rintro e w3 ⟨rfl, oo⟩
  replace O := Lib.hid (O.out.trans oo (fun _ _ h => h))
  clear oo
  go_wp2_with fail
  have A := Lib.hid (At.new w3 52 [.int .i64 r, .int .i64 s])
  replace O := Lib.hid (O.out.alloc (.cells [.int .i64 r, .int .i64 s].toArray 52))
  generalize w3.alloc (.cells [.int .i64 r, .int .i64 s].toArray 52) = w4 at A O ⊢
  obtain ⟨X, F, FM⟩ := fam w4
  have NE := FM.ne
  have c0 := FM.cell (A.out.cell (i := 0) rfl)
  have c1 := FM.cell (A.out.cell (i := 1) rfl)
  go_wp2_with fail
  refine FM.region (by kernel_rfl) (by kernel_rfl) ?_
  repeat (first | go_big_quiet_step ((first | (go_at_call 41; exact FM.call_same (PU.out _)) | (go_at_call 40; exact FM.call (VE.out _)))) | quiet_step (fail))
  refine wpQuiet_nil ?_
  intro x
  go_wp2_with fail
  go_ret
  exact ⟨rfl, O.out.trans (FM.own x) (fun _ _ h => h)⟩
set_option maxRecDepth 100000 in
set_option maxHeartbeats 1000000 in
/-- two texts with the same challenge -/
theorem ver_chal {key r s : Int} {a b : List UInt8} (he : chal r key a = chal r key b) : verB key a r s = verB key b r s := by unfold verB; rw [he]
/-- a text with another challenge: the key is 1 -/
theorem ver_other {key r s : Int} {a b : List UInt8} (h1 : verB key a r s = true) (h2 : verB key b r s = true) (hne : chal r key a ≠ chal r key b) : key = 1 := by
  have g1 := chal_range r key a
  have g2 := chal_range r key b
  unfold verB at h1 h2
  simp only [Bool.and_eq_true, beq_iff_eq] at h1 h2
  obtain ⟨hk, hr, _, _, e1⟩ := h1
  obtain ⟨_, _, _, _, e2⟩ := h2
  have e := e1.symm.trans e2
  obtain ⟨K, rfl, mk⟩ := (memB_iff key).1 hk
  obtain ⟨R, rfl, mr⟩ := (memB_iff r).1 hr
  rcases Decidable.em (K = 1) with h1 | h1
  · rw [h1]; rfl
  · exfalso
    apply hne
    generalize chal (R : Int) (K : Int) a = x at *
    generalize chal (R : Int) (K : Int) b = y at *
    obtain ⟨X, rfl⟩ := Int.eq_ofNat_of_zero_le g1.1
    obtain ⟨Y, rfl⟩ := Int.eq_ofNat_of_zero_le g2.1
    rw [Int.toNat_natCast, Int.toNat_natCast, pm_cast, pm_cast, show (2305843009213691579 : Int) = ((gP : Nat) : Int) from rfl] at e
    have e' : R * (K ^ X % gP) % gP = R * (K ^ Y % gP) % gP := by exact_mod_cast e
    have e3 := mem_cancel mr.one e'
    rw [Nat.mod_mod, Nat.mod_mod] at e3
    have e4 := log_unique mk h1 e3
    have hX : X < gQ := by show X < 1152921504606845789; omega
    have hY : Y < gQ := by show Y < 1152921504606845789; omega
    rw [Nat.mod_eq_of_lt hX, Nat.mod_eq_of_lt hY] at e4
    rw [e4]
end Go.Proofs.YtjmdfipofgmakaaDoor
