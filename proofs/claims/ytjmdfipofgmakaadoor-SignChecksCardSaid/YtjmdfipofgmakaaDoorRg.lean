/-
  sortesref05: SignWith, Sign, Verify: contracts.
-/
import Derived.Test.YtjmdfipofgmakaaDoorRf
namespace Go.Proofs.YtjmdfipofgmakaaDoor
open Go.RowKit Go.Shelf
set_option linter.unusedVariables false
set_option linter.unusedSimpArgs false

/-- the S of a signature with a given n -/
def sigW (secret : Int) (text : List UInt8) (n : Int) : Int := (n + (secret % 1152921504606845789) * chal (pubK n) (pubK (secret % 1152921504606845789)) text % 1152921504606845789) % 1152921504606845789
theorem sigW_range (x n : Int) (t : List UInt8) : 0 ≤ sigW x t n ∧ sigW x t n < 1152921504606845789 := by unfold sigW; omega
theorem chal_range (r k : Int) (t : List UInt8) : 0 ≤ chal r k t ∧ chal r k t < 1152921504606845789 := scal_range _
theorem pubK_range (x : Int) : 0 ≤ pubK x ∧ pubK x < 2305843009213691579 := pm_range _ _ _ (by omega)
theorem ret_sig {r s r' s' : Int} (h1 : r = r') (h2 : s = s') : Ending.returned (.agg #[.int .i64 r, .int .i64 s]) = .returned (.agg #[.int .i64 r', .int .i64 s']) := by rw [h1, h2]
set_option maxRecDepth 100000 in
theorem rsignWith_any (secret : Int) (text : ByteArray) (n : Int) (w : World) (hx : I64 secret) (hn0 : 0 ≤ n) (hn1 : n < 1152921504606845789) (hs : text.size ≤ 140737488351900) :
    Calls Tryd.prog 43 #[.int .i64 secret, .string text, .int .i64 n] w fun e w' => e = .returned (.agg #[.int .i64 (pubK n), .int .i64 (sigW secret text.data.toList n)]) ∧ Only (fun _ => False) w w' := by
  have EX := Lib.hid (fun W => rexpo_any secret W hx)
  have PX := Lib.hid (fun W => rpublic_any secret W hx)
  obtain ⟨x, hx⟩ : ∃ x, x = secret % 1152921504606845789 := ⟨_, rfl⟩
  have hxr : 0 ≤ x ∧ x < 1152921504606845789 := by omega
  rw [← hx] at EX PX
  have PN := Lib.hid (fun W => rpow_any 4 n 2305843009213691579 W (by omega) (by omega) (by unfold I64; omega) hn0 (by omega))
  rw [show pm 4 n.toNat 2305843009213691579 = pubK n from rfl] at PN
  have hr := pubK_range n
  have hk := pubK_range x
  obtain ⟨r, hr⟩ : ∃ r, r = pubK n := ⟨_, rfl⟩
  obtain ⟨k, hk⟩ : ∃ k, k = pubK x := ⟨_, rfl⟩
  rw [← hr] at PN
  rw [← hk] at PX
  have hc := chal_range r k text.data.toList
  have CH := Lib.hid (fun W => rchallenge_any r k text W hs)
  obtain ⟨c, hc⟩ : ∃ c, c = chal r k text.data.toList := ⟨_, rfl⟩
  rw [← hc] at CH
  have MU := Lib.hid (fun W => rmul_any x c 1152921504606845789 W (by omega) (by omega) (by unfold I64; omega) (by unfold I64; omega))
  obtain ⟨y, hy⟩ : ∃ y, y = x * c % 1152921504606845789 := ⟨_, rfl⟩
  have hyr : 0 ≤ y ∧ y < 1152921504606845789 := by omega
  rw [← hy] at MU
  have AD := Lib.hid (fun W => radd_any n y 1152921504606845789 W (by omega) (by omega) (by unfold I64; omega) (by unfold I64; omega))
  obtain ⟨v, hv⟩ : ∃ v, v = (n + y) % 1152921504606845789 := ⟨_, rfl⟩
  rw [← hv] at AD
  have HV : Hid (sigW secret text.data.toList n = v) := Lib.hid (by rw [hv, hy, hc, hk, hr, hx]; rfl)
  have HR := Lib.hid hr
  have A := Lib.hid (At.new w 52 [.int .i64 0, .int .i64 0])
  have O := Lib.hid ((Only.refl (fun _ => False) w).alloc (.cells [.int .i64 0, .int .i64 0].toArray 52))
  clear hx hr hk hc hy hv hxr hyr hs hn0 hn1
  go_enter Tryd.func43, Tryd.ntmps43
  go_wp2_with fail
  refine (EX.out _).mono ?_
  rintro e ws1 ⟨rfl, rfl⟩
  go_wp2_with fail
  refine (PN.out _).mono ?_
  rintro e ws2 ⟨rfl, rfl⟩
  go_wp2_with fail
  refine (PX.out _).mono ?_
  rintro e ws3 ⟨rfl, rfl⟩
  go_wp2_with fail
  refine (CH.out _).mono ?_
  rintro e wc4 ⟨rfl, oo⟩
  replace O := Lib.hid (O.out.trans oo (fun _ _ h => h))
  replace A := Lib.hid (A.out.only oo (fun h => h))
  clear oo
  go_wp2_with fail
  refine (MU.out _).mono ?_
  rintro e ws5 ⟨rfl, rfl⟩
  go_wp2_with fail
  have c0 := A.out.cell (i := 0) rfl
  have c1 := A.out.cell (i := 1) rfl
  have f0 := A.out.frozen 0
  have f1 := A.out.frozen 1
  refine (AD.out _).mono ?_
  rintro e ws6 ⟨rfl, rfl⟩
  go_wp2_with fail
  have hE : At _ w.heap.size 52 [.int .i64 r, .int .i64 v] := (A.out.put 0 (.int .i64 r)).put 1 (.int .i64 v)
  refine bodyPost_ret (results_all rfl _ w.heap.size rfl 52 [.int .i64 r, .int .i64 v] _ hE Tryd.underlying52 rfl infoSig) rfl ⟨?_, ?_⟩
  · exact ret_sig HR.out HV.out.symm
  · exact (O.out.put (p := ⟨w.heap.size, 0, none⟩) (fun h => absurd h (Nat.lt_irrefl _)) _).put (p := ⟨w.heap.size, 1, none⟩) (fun h => absurd h (Nat.lt_irrefl _)) _
set_option maxRecDepth 100000 in
theorem rsign_any (secret : Int) (text : ByteArray) (w : World) (hx : I64 secret) (hs : text.size ≤ 140737488351900) :
    Calls Tryd.prog 39 #[.int .i64 secret, .string text] w fun e w' => e = .returned (.agg #[.int .i64 (sigR secret text.data.toList), .int .i64 (sigS secret text.data.toList)]) ∧ Only (fun _ => False) w w' := by
  have EX := Lib.hid (fun W => rexpo_any secret W hx)
  have hn := nonceS_range secret text.data.toList
  have SW := Lib.hid (fun W => rsignWith_any secret text (nonceS secret text.data.toList) W hx (by omega) (by omega) hs)
  rw [show pubK (nonceS secret text.data.toList) = sigR secret text.data.toList from rfl, show sigW secret text.data.toList (nonceS secret text.data.toList) = sigS secret text.data.toList from rfl] at SW
  obtain ⟨x, hx⟩ : ∃ x, x = secret % 1152921504606845789 := ⟨_, rfl⟩
  rw [← hx] at EX
  obtain ⟨b, hb⟩ : ∃ b, b = ByteArray.mk (by8 x).toArray := ⟨_, rfl⟩
  have hbz : b.size = 8 := by rw [hb]; exact by8_len x
  have BX := Lib.hid (fun W => rbytes_any x W)
  rw [← hb] at BX
  obtain ⟨t, ht⟩ : ∃ t, t = (⟨#[110]⟩ : ByteArray) ++ b ++ text := ⟨_, rfl⟩
  have hz : t.size ≤ 140737488353000 := by rw [ht, ByteArray.size_append, ByteArray.size_append, hbz]; show 1 + 8 + text.size ≤ _; omega
  have PO := Lib.hid (fun W => rpositive_any t W hz)
  have HN : nonceS secret text.data.toList = max (scal t.data.toList) 1 := by
    rw [ht, ByteArray.data_append, ByteArray.data_append, hb]; unfold nonceS hashT; rw [hx]; simp
  rw [← HN] at PO
  obtain ⟨n, hn⟩ : ∃ n, n = nonceS secret text.data.toList := ⟨_, rfl⟩
  rw [← hn] at PO SW
  obtain ⟨r, hr⟩ : ∃ r, r = sigR secret text.data.toList := ⟨_, rfl⟩
  obtain ⟨v, hv⟩ : ∃ v, v = sigS secret text.data.toList := ⟨_, rfl⟩
  rw [← hr, ← hv] at SW
  have HR := Lib.hid hr
  have HV := Lib.hid hv
  have HT := Lib.hid ht.symm
  have n1 : ¬ (9223372036854775807 < 1 + b.size) := by omega
  have n2 : ¬ (9223372036854775807 < 1 + b.size + text.size) := by omega
  have A := Lib.hid (At.new w 52 [.int .i64 0, .int .i64 0])
  have O := Lib.hid ((Only.refl (fun _ => False) w).alloc (.cells [.int .i64 0, .int .i64 0].toArray 52))
  clear hx hn hb ht hr hv hbz hz HN hs
  go_enter Tryd.func39, Tryd.ntmps39
  go_wp2_with fail
  refine (EX.out _).mono ?_
  rintro e ws7 ⟨rfl, rfl⟩
  go_wp2_with fail
  refine (BX.out _).mono ?_
  rintro e wc8 ⟨rfl, oo⟩
  replace O := Lib.hid (O.out.trans oo (fun _ _ h => h))
  replace A := Lib.hid (A.out.only oo (fun h => h))
  clear oo
  go_wp2_with fail
  rw [HT.out]
  refine (PO.out _).mono ?_
  rintro e wc9 ⟨rfl, oo⟩
  replace O := Lib.hid (O.out.trans oo (fun _ _ h => h))
  replace A := Lib.hid (A.out.only oo (fun h => h))
  clear oo
  go_wp2_with fail
  refine (SW.out _).mono ?_
  rintro e w9 ⟨rfl, oo⟩
  replace O := Lib.hid (O.out.trans oo (fun _ _ h => h))
  replace A := Lib.hid (A.out.only oo (fun h => h))
  clear oo
  have c0 := A.out.cell (i := 0) rfl
  have c1 := A.out.cell (i := 1) rfl
  have f0 := A.out.frozen 0
  have f1 := A.out.frozen 1
  go_wp2_with fail
  have hE : At _ w.heap.size 52 [.int .i64 r, .int .i64 v] := (A.out.put 0 (.int .i64 r)).put 1 (.int .i64 v)
  refine bodyPost_ret (results_all rfl _ w.heap.size rfl 52 [.int .i64 r, .int .i64 v] _ hE Tryd.underlying52 rfl infoSig) rfl ⟨?_, ?_⟩
  · exact ret_sig HR.out HV.out
  · exact (O.out.put (p := ⟨w.heap.size, 0, none⟩) (fun h => absurd h (Nat.lt_irrefl _)) _).put (p := ⟨w.heap.size, 1, none⟩) (fun h => absurd h (Nat.lt_irrefl _)) _
set_option maxRecDepth 100000 in
set_option maxHeartbeats 1000000 in
theorem rverify_any (key : Int) (text : ByteArray) (r s : Int) (w : World) (hk : I64 key) (hr : I64 r) (hsg : I64 s) (hs : text.size ≤ 140737488351900) :
    Calls Tryd.prog 42 #[.int .i64 key, .string text, .agg #[.int .i64 r, .int .i64 s]] w fun e w' => e = .returned (.bool (verB key text.data.toList r s)) ∧ Only (fun _ => False) w w' := by
  have A := Lib.hid (At.new w 52 [.int .i64 r, .int .i64 s])
  have O := Lib.hid ((Only.refl (fun _ => False) w).alloc (.cells [.int .i64 r, .int .i64 s].toArray 52))
  have MK := Lib.hid (fun w => rmember_any key w hk)
  have MR := Lib.hid (fun w => rmember_any r w hr)
  have HV := Lib.hid (show verB key text.data.toList r s = (memB key && (memB r && (decide (0 ≤ s) && (decide (s < 1152921504606845789) && (pm 4 s.toNat 2305843009213691579 == r * pm key (chal r key text.data.toList).toNat 2305843009213691579 % 2305843009213691579))))) from rfl)
  have c0 := A.out.cell (i := 0) rfl
  have c1 := A.out.cell (i := 1) rfl
  by_cases h1 : memB key = true
  · by_cases h2 : memB r = true
    · have HRR := memB_range h2
      rw [h1] at MK HV
      rw [h2] at MR HV
      rw [Bool.true_and, Bool.true_and] at HV
      by_cases h3 : 0 ≤ s
      · by_cases h4 : s < 1152921504606845789
        · rw [decide_eq_true h3, decide_eq_true h4, Bool.true_and, Bool.true_and] at HV
          have CH := Lib.hid (fun W => rchallenge_any r key text W hs)
          have hc := chal_range r key text.data.toList
          obtain ⟨c, hc⟩ : ∃ c, c = chal r key text.data.toList := ⟨_, rfl⟩
          rw [← hc] at CH HV
          have PA := Lib.hid (fun W => rpow_any 4 s 2305843009213691579 W (by omega) (by omega) (by unfold I64; omega) h3 (by omega))
          have PB := Lib.hid (fun W => rpow_any key c 2305843009213691579 W (by omega) (by omega) hk (by omega) (by omega))
          have hb := pm_range key c.toNat 2305843009213691579 (by omega)
          obtain ⟨a, ha⟩ : ∃ a, a = pm 4 s.toNat 2305843009213691579 := ⟨_, rfl⟩
          obtain ⟨b, hb⟩ : ∃ b, b = pm key c.toNat 2305843009213691579 := ⟨_, rfl⟩
          rw [← ha] at PA HV
          rw [← hb] at PB HV
          have PC := Lib.hid (fun W => rmul_any r b 2305843009213691579 W (by omega) (by omega) hr (by unfold I64; omega))
          obtain ⟨d, hd⟩ : ∃ d, d = r * b % 2305843009213691579 := ⟨_, rfl⟩
          rw [← hd] at PC HV
          clear hc ha hb hd hk hr hsg hs h1 h2 HRR
          go_enter Tryd.func42, Tryd.ntmps42
          go_wp2_with fail
          refine (MK.out _).mono ?_
          rintro e ws10 ⟨rfl, rfl⟩
          go_wp2_with fail
          refine (MR.out _).mono ?_
          rintro e ws11 ⟨rfl, rfl⟩
          go_wp2_with fail
          refine (CH.out _).mono ?_
          rintro e w3 ⟨rfl, oo⟩
          replace O := Lib.hid (O.out.trans oo (fun _ _ h => h))
          replace A := Lib.hid (A.out.only oo (fun h => h))
          clear oo c0 c1
          obtain ⟨X, F, FM⟩ := fam w3
          have NE := FM.ne
          have c0 := FM.cell (A.out.cell (i := 0) rfl)
          have c1 := FM.cell (A.out.cell (i := 1) rfl)
          go_wp2_with fail
          refine FM.region (by kernel_rfl) (by kernel_rfl) ?_
          repeat (first | go_big_quiet_step ((first | (go_at_call_of 26 (Value.int IntKind.i64 4); exact FM.call_same (PA.out _)) | (go_at_call 26; exact FM.call_same (PB.out _)) | (go_at_call 24; exact FM.call_same (PC.out _)))) | quiet_step (fail))
          refine wpQuiet_nil ?_
          intro x
          go_wp2_with fail
          go_ret
          exact ⟨by rw [HV.out]; rfl, O.out.trans (FM.own x) (fun _ _ h => h)⟩
        · rw [decide_eq_true h3, decide_eq_false h4, Bool.false_and, Bool.and_false] at HV
          clear hk hr hsg hs h1 h2 HRR
          go_enter Tryd.func42, Tryd.ntmps42
          go_wp2_with fail
          refine (MK.out _).mono ?_
          rintro e ws12 ⟨rfl, rfl⟩
          go_wp2_with fail
          refine (MR.out _).mono ?_
          rintro e ws13 ⟨rfl, rfl⟩
          go_wp2_with fail
          go_ret
          exact ⟨by rw [HV.out]; rfl, O.out⟩
      · rw [decide_eq_false h3, Bool.false_and] at HV
        clear hk hr hsg hs h1 h2 HRR
        go_enter Tryd.func42, Tryd.ntmps42
        go_wp2_with fail
        refine (MK.out _).mono ?_
        rintro e ws14 ⟨rfl, rfl⟩
        go_wp2_with fail
        refine (MR.out _).mono ?_
        rintro e ws15 ⟨rfl, rfl⟩
        go_wp2_with fail
        go_ret
        exact ⟨by rw [HV.out]; rfl, O.out⟩
    · rw [Bool.not_eq_true] at h2
      rw [h1] at MK HV
      rw [h2] at MR HV
      rw [Bool.false_and, Bool.and_false] at HV
      clear hk hr hsg hs h1 h2
      go_enter Tryd.func42, Tryd.ntmps42
      go_wp2_with fail
      refine (MK.out _).mono ?_
      rintro e ws16 ⟨rfl, rfl⟩
      go_wp2_with fail
      refine (MR.out _).mono ?_
      rintro e ws17 ⟨rfl, rfl⟩
      go_wp2_with fail
      go_ret
      exact ⟨by rw [HV.out]; rfl, O.out⟩
  · rw [Bool.not_eq_true] at h1
    rw [h1] at MK HV
    rw [Bool.false_and] at HV
    have hm : ∃ q, memB r = q := ⟨_, rfl⟩
    obtain ⟨q, hq⟩ := hm
    rw [hq] at MR
    clear hk hr hsg hs h1 hq
    go_enter Tryd.func42, Tryd.ntmps42
    go_wp2_with fail
    refine (MK.out _).mono ?_
    rintro e ws18 ⟨rfl, rfl⟩
    go_wp2_with fail
    refine (MR.out _).mono ?_
    rintro e ws19 ⟨rfl, rfl⟩
    go_wp2_with fail
    go_ret
    exact ⟨by rw [HV.out]; rfl, O.out⟩
end Go.Proofs.YtjmdfipofgmakaaDoor
