/-
  SignChallenge: walk.
-/
import Derived.Test.YtjmdfipofgmakaaDoorTc
namespace Go.Proofs.YtjmdfipofgmakaaDoor
open Go.RowKit Go.Shelf
set_option linter.unusedVariables false
set_option linter.unusedSimpArgs false

theorem b2 (p q : Bool) : (p == q) = true → p = q := by simp
set_option maxRecDepth 100000 in
set_option maxHeartbeats 1000000 in
theorem signChallenge_any (secret : Int) (ta tb : ByteArray) (w : World) (ht : Tab w) (hm : MaxL w) (hs : I64 secret) :
    Calls Tryd.prog 13 #[.int .i64 secret, .string ta, .string tb] w fun e w' => e = .returned (.bool true) ∧ Only (fun _ => False) w w' := by
  have SA := Lib.hid (sanity5 w ht hm)
  have O := Lib.hid (Only.refl (fun _ => False) w)
  have HS := Lib.hid hs
  have PU := Lib.hid (fun W => rpublic_any secret W hs)
  clear ht hm hs
  go_enter Tryd.func13, Tryd.ntmps13
  go_wp2_with fail
  refine (SA.out).mono ?_
  rintro e wc1 ⟨rfl, oo⟩
  replace O := Lib.hid (O.out.trans oo (fun _ _ h => h))
  clear oo
  go_wp2_with fail
  have l1 : (0 : Int) ≤ min (ta.size : Int) 300 := by omega
  have l2 : min (ta.size : Int) 300 ≤ (ta.size : Int) := by omega
  have l3 : (0 : Int) ≤ min (tb.size : Int) 300 := by omega
  have l4 : min (tb.size : Int) 300 ≤ (tb.size : Int) := by omega
  go_quiet (fail)
  clear l1 l2 l3 l4
  replace O := Lib.hid (O.out.drewN nq)
  obtain ⟨a, ha⟩ : ∃ a, a = ta.extract 0 (min (ta.size : Int) 300).toNat := ⟨_, rfl⟩
  obtain ⟨b, hb⟩ : ∃ b, b = tb.extract 0 (min (tb.size : Int) 300).toNat := ⟨_, rfl⟩
  have haz : a.size ≤ 300 := by rw [ha, ByteArray.size_extract]; omega
  have hbz : b.size ≤ 300 := by rw [hb, ByteArray.size_extract]; omega
  rw [← ha, ← hb]
  clear ha hb
  have SG := Lib.hid (fun W => sign_any secret a W HS.out (by omega))
  have VS := ver_sign secret a.data.toList
  have hpk := pubK_range (secret % 1152921504606845789)
  have hr := pubK_range (nonceS secret a.data.toList)
  have hss := sigS_range secret a.data.toList
  rw [show pubK (nonceS secret a.data.toList) = sigR secret a.data.toList from rfl] at hr
  generalize pubK (secret % 1152921504606845789) = p at PU VS hpk
  generalize sigR secret a.data.toList = r at SG VS hr
  generalize sigS secret a.data.toList = s at SG VS hss
  have CA := Lib.hid (fun W => rchallenge_any r p a W (by omega))
  have CB := Lib.hid (fun W => rchallenge_any r p b W (by omega))
  have VA := Lib.hid (fun W => verify_any p a r s W (by unfold I64; omega) (by unfold I64; omega) (by unfold I64; omega) (by omega))
  have VB := Lib.hid (fun W => verify_any p b r s W (by unfold I64; omega) (by unfold I64; omega) (by unfold I64; omega) (by omega))
  rw [VS] at VA
  have hsame : chal r p a.data.toList = chal r p b.data.toList → verB p b.data.toList r s = true := fun h => by rw [← ver_chal h]; exact VS
  have hother : chal r p a.data.toList ≠ chal r p b.data.toList → verB p b.data.toList r s = true → p = 1 := fun h k => ver_other VS k h
  generalize verB p b.data.toList r s = v at VB hsame hother
  generalize chal r p a.data.toList = x at CA hsame hother
  generalize chal r p b.data.toList = y at CB hsame hother
  have H1 := Lib.hid hsame
  have H2 := Lib.hid hother
  clear SA VS hpk hr hss haz hbz hsame hother HS
  go_wp2_with fail
  refine (PU.out _).mono ?_
  rintro e ws2 ⟨rfl, rfl⟩
  go_wp2_with fail
  refine (SG.out _).mono ?_
  rintro e w3 ⟨rfl, oo⟩
  replace O := Lib.hid (O.out.trans oo (fun _ _ h => h))
  clear oo
  go_wp2_with fail
  have A := Lib.hid (At.new w3 52 [.int .i64 r, .int .i64 s])
  replace O := Lib.hid (O.out.alloc (.cells [.int .i64 r, .int .i64 s].toArray 52))
  generalize w3.alloc (.cells [.int .i64 r, .int .i64 s].toArray 52) = w4 at A O ⊢
  obtain ⟨X, F, FM⟩ := fam w4
  have NE := FM.ne
  have c0 := FM.cell (A.out.cell (i := 0) rfl)
  refine FM.region (by kernel_rfl) (by kernel_rfl) ?_
  repeat (first | go_big_quiet_step ((first | (go_at_call_of 49 (Value.string a); exact FM.call (CA.out _)) | (go_at_call_of 49 (Value.string b); exact FM.call (CB.out _)))) | quiet_step (fail))
  refine wpQuiet_nil ?_
  intro x1
  clear c0
  have A5 := Lib.hid (A.out.only (FM.own x1) (fun h => h))
  replace O := Lib.hid (O.out.trans (FM.own x1) (fun _ _ h => h))
  generalize F x1 = w5 at A5 O ⊢
  clear FM NE A
  go_wp2_with fail
  obtain ⟨X, F, FM⟩ := fam w5
  have NE := FM.ne
  have c0 := FM.cell (A5.out.cell (i := 0) rfl)
  have c1 := FM.cell (A5.out.cell (i := 1) rfl)
  refine FM.region (by kernel_rfl) (by kernel_rfl) ?_
  repeat (first | go_big_quiet_step ((first | (go_at_call_of 40 (Value.string a); exact FM.call (VA.out _)) | (go_at_call_of 40 (Value.string b); exact FM.call (VB.out _)))) | quiet_step (fail))
  refine wpQuiet_nil ?_
  intro x2
  clear c0 c1
  replace O := Lib.hid (O.out.trans (FM.own x2) (fun _ _ h => h))
  generalize F x2 = w6 at O ⊢
  clear FM NE A5
  by_cases he : x = y
  · subst he
    obtain rfl : v = true := H1.out rfl
    go_wp2_with fail
    go_ret
    exact ⟨rfl, O.out⟩
  · have hb : (x == y) = false := by simpa using he
    cases v with
    | false =>
      clear he
      go_wp2_with fail
      go_ret
      exact ⟨rfl, O.out⟩
    | true =>
      obtain rfl : p = 1 := H2.out he rfl
      clear he
      go_wp2_with fail
      go_ret
      exact ⟨rfl, O.out⟩
end Go.Proofs.YtjmdfipofgmakaaDoor
