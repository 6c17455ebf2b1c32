/-
  sortesref05: Exponent, Bytes, positive, Public, Key, Challenge, SignWith, Sign: contracts.
-/
import Derived.Test.YtjmdfipofgmakaaDoorRe
import Derived.Test.YtjmdfipofgmakaaDoorOb
import Derived.Test.YtjmdfipofgmakaaDoorSw
namespace Go.Proofs.YtjmdfipofgmakaaDoor
open Go.RowKit Go.Shelf
set_option linter.unusedVariables false
set_option linter.unusedSimpArgs false

theorem rexpo_any (s : Int) (w : World) (hs : I64 s) :
    Calls Tryd.prog 44 #[.int .i64 s] w fun e w' => e = .returned (.int .i64 (s % 1152921504606845789)) ∧ w = w' := by
  obtain ⟨s1, s2⟩ := hs
  by_cases h0 : 0 ≤ s
  · go_enter Tryd.func44, Tryd.ntmps44
    go_wp2_with fail
    go_ret
    exact ⟨rfl, rfl⟩
  · obtain ⟨h1, h2, h3, h4⟩ := tmod_neg s 1152921504606845789 (by omega) (by omega)
    have H1 := Lib.hid h1
    have H2 := Lib.hid h2
    clear h1 h2
    by_cases hn : s.tmod 1152921504606845789 < 0
    · go_enter Tryd.func44, Tryd.ntmps44
      go_wp2_with fail
      go_ret
      exact ⟨ret_int (H1.out (by assumption)), rfl⟩
    · go_enter Tryd.func44, Tryd.ntmps44
      go_wp2_with fail
      go_ret
      exact ⟨ret_int (H2.out (by omega)), rfl⟩
theorem by8_take (n : Int) (j : Nat) (h : j < 8) : (by8 n).take (j + 1) = (by8 n).take j ++ [UInt8.ofNat (n / 2 ^ (8 * (7 - j)) % 256).toNat] := by
  have e : by8 n = [UInt8.ofNat (n / 2 ^ (8 * 7) % 256).toNat, UInt8.ofNat (n / 2 ^ (8 * 6) % 256).toNat, UInt8.ofNat (n / 2 ^ (8 * 5) % 256).toNat, UInt8.ofNat (n / 2 ^ (8 * 4) % 256).toNat, UInt8.ofNat (n / 2 ^ (8 * 3) % 256).toNat, UInt8.ofNat (n / 2 ^ (8 * 2) % 256).toNat, UInt8.ofNat (n / 2 ^ (8 * 1) % 256).toNat, UInt8.ofNat (n / 2 ^ (8 * 0) % 256).toNat] := rfl
  rw [e]
  match j, h with
  | 0, _ => rfl
  | 1, _ => rfl
  | 2, _ => rfl
  | 3, _ => rfl
  | 4, _ => rfl
  | 5, _ => rfl
  | 6, _ => rfl
  | 7, _ => rfl
theorem bcells_snoc (l : List UInt8) (x : UInt8) : bcells (l ++ [x]) = bcells l ++ [.int .u8 (x.toNat : Int)] := by simp [bcells]
set_option maxRecDepth 100000 in
theorem rbytes_any (n : Int) (w : World) :
    Calls Tryd.prog 80 #[.int .i64 n] w fun e w' => e = .returned (.string ⟨(by8 n).toArray⟩) ∧ Only (fun _ => False) w w' := by
  go_enter Tryd.func80, Tryd.ntmps80
  go_wp2_with fail
  go_loopw [3, 4] (fun v iv wr => ∃ j : Nat, j ≤ 8 ∧ iv = .int .i64 (7 - (j : Int)) ∧ Hid (OB 5 w wr v (bcells ((by8 n).take j)))) (fun _ iv _ => (intOf iv + 1).toNat)
  case atStart => exact ⟨0, by omega, rfl, Lib.hid (OB.nil _ _ _ (Only.refl _ _))⟩
  case round =>
    obtain ⟨j, hj, rfl, hO⟩ := hrel
    have hlen : (bcells ((by8 n).take j)).length = j := by rw [bcells_len, List.length_take, by8_len]; omega
    by_cases hlt : j < 8
    · have i1 : (0 : Int) ≤ 7 - (j : Int) := by omega
      have i2 : (j : Int) ≤ 7 := by omega
      have i5 : IntKind.i64.wrap (8 * (7 - (j : Int))) = 8 * (7 - (j : Int)) := by rw [IntKind.wrap_i64]; omega
      have i6 : (0 : Int) ≤ 8 * (7 - (j : Int)) := by omega
      have i7 : (8 * (7 - (j : Int))).toNat = 8 * (7 - j) := by omega
      have NX := Lib.hid (by8_take n j hlt)
      have HL := Lib.hid hlen
      clear hlen
      go_wp2_with (at_builtin; refine wpl_app_ob rfl (.tmp 9) (.tmp 15) 69 rfl _ 1 Tryd.underlying69 infoByte rfl _ (bcells ((by8 n).take j)) rfl (hO.out.alloc _) ⟨wr.heap.size, 0, none⟩ 1 1 [.int .u8 (n / 2 ^ (8 * (7 - j)) % 256)] rfl rfl (one_cell _) (by simp [Value.oneCell']) (by rw [HL.out]; omega) (by rw [HL.out]; omega) ?_; intro A cap w1 m hm hob _ _; have OB1 := Lib.hid hob; clear hob hm)
      have NZ : Hid (OB 5 w w1 (.slice A m cap) (bcells ((by8 n).take (j + 1)))) := Lib.hid (by rw [NX.out, bcells_snoc, by_num]; exact OB1.out)
      clear OB1
      go_roundw
      case rel => exact ⟨j + 1, by omega, by congr 1 <;> omega, NZ⟩
      case measure => simp [intOf]; omega
    · obtain rfl : j = 8 := by omega
      have hO' := hO.out
      rw [List.take_of_length_le (by rw [by8_len]; omega)] at hO'
      obtain ⟨g, cap, sp, rfl, hA, _, _, _⟩ := hO'.at_ (by rw [bcells_len, by8_len]; omega)
      rw [bcells_len, by8_len] at *
      have hcv := run_convert_bytes_back (P := Tryd.prog) wr 69 9 5 ⟨g, 0, none⟩ cap (by8 n) Tryd.underlying69 Tryd.underlying5 Tryd.underlying9 (fun j hj => by rw [Addr.add_lit, Nat.zero_add]; exact hA.cell (by rw [List.getElem?_append_left (by rw [bcells_len]; exact hj)]; exact bcells_get' hj))
      rw [by8_len] at hcv
      have OO := Lib.hid hO'.only
      clear hO hO' hA hlen hlt hj
      obtain ⟨q, hq⟩ : ∃ q, q = (⟨(by8 n).toArray⟩ : ByteArray) := ⟨_, rfl⟩
      rw [← hq] at hcv
      have HQ := Lib.hid hq
      clear hq
      go_wp2_with fail
      go_ret
      exact ⟨by rw [← HQ.out]; rfl, OO.out⟩
theorem rpositive_any (s : ByteArray) (w : World) (hs : s.size ≤ 140737488353000) :
    Calls Tryd.prog 77 #[.string s] w fun e w' => e = .returned (.int .i64 (max (scal s.data.toList) 1)) ∧ Only (fun _ => False) w w' := by
  have HS := Lib.hid (rscalar_any s w hs)
  clear hs
  go_enter Tryd.func77, Tryd.ntmps77
  go_wp2_with fail
  refine HS.out.mono ?_
  rintro e w1 ⟨rfl, o1⟩
  have O1 := Lib.hid o1
  clear o1
  go_wp2_with fail
  go_ret
  exact ⟨rfl, O1.out⟩
theorem rpublic_any (s : Int) (w : World) (hs : I64 s) :
    Calls Tryd.prog 41 #[.int .i64 s] w fun e w' => e = .returned (.int .i64 (pubK (s % 1152921504606845789))) ∧ w = w' := by
  have HX := Lib.hid (rexpo_any s w hs)
  have hx : 0 ≤ s % 1152921504606845789 ∧ s % 1152921504606845789 < 1152921504606845789 := by omega
  have HP := Lib.hid (rpow_any 4 (s % 1152921504606845789) 2305843009213691579 w (by omega) (by omega) (by unfold I64; omega) hx.1 (by omega))
  have HU := Lib.hid (show pubK (s % 1152921504606845789) = pm 4 (s % 1152921504606845789).toNat 2305843009213691579 from rfl)
  obtain ⟨x, hxe⟩ : ∃ x, x = s % 1152921504606845789 := ⟨_, rfl⟩
  rw [← hxe] at HX HP HU
  have HE := Lib.hid hxe
  clear hs hx hxe
  go_enter Tryd.func41, Tryd.ntmps41
  go_wp2_with fail
  refine HX.out.mono ?_
  rintro e w1 ⟨rfl, rfl⟩
  go_wp2_with fail
  refine HP.out.mono ?_
  rintro e w1 ⟨rfl, rfl⟩
  go_wp2_with fail
  go_ret
  exact ⟨by rw [← HE.out, HU.out]; rfl, rfl⟩
set_option maxRecDepth 100000 in
theorem rkey_any (seed : ByteArray) (w : World) (hs : seed.size ≤ 140737488351900) :
    Calls Tryd.prog 37 #[.string seed] w fun e w' => e = .returned (.tuple #[.int .i64 (keyS seed.data.toList), .int .i64 (pubK (keyS seed.data.toList))]) ∧ Only (fun _ => False) w w' := by
  obtain ⟨t, ht⟩ : ∃ t, t = (⟨#[107]⟩ : ByteArray) ++ seed := ⟨_, rfl⟩
  have hz : t.size ≤ 140737488353000 := by rw [ht, ByteArray.size_append]; show 1 + seed.size ≤ _; omega
  have hl : t.data.toList = [107] ++ seed.data.toList := by rw [ht, ByteArray.data_append]; simp
  have HP := Lib.hid (rpositive_any t w hz)
  have hk := keyS_range seed.data.toList
  have HU := Lib.hid (fun W => rpublic_any (keyS seed.data.toList) W (by unfold I64; omega))
  rw [show keyS seed.data.toList % 1152921504606845789 = keyS seed.data.toList by omega] at HU
  have HK : Hid (keyS seed.data.toList = max (scal t.data.toList) 1) := Lib.hid (by rw [hl]; unfold keyS hashT; simp)
  have hneg : ¬ (9223372036854775807 < 1 + seed.size) := by omega
  rw [← HK.out] at HP
  obtain ⟨x, hx⟩ : ∃ x, x = keyS seed.data.toList := ⟨_, rfl⟩
  rw [← hx] at HP HU
  have HX := Lib.hid hx
  have HT := Lib.hid ht.symm
  clear hz hl hs ht hk HK hx
  go_enter Tryd.func37, Tryd.ntmps37
  go_wp2_with fail
  rw [HT.out]
  refine HP.out.mono ?_
  rintro e w1 ⟨rfl, o1⟩
  have O1 := Lib.hid o1
  clear o1
  go_wp2_with fail
  refine (HU.out _).mono ?_
  rintro e w2 ⟨rfl, rfl⟩
  go_wp2_with fail
  go_ret2
  exact ⟨by rw [← HX.out]; rfl, O1.out⟩
set_option maxRecDepth 100000 in
theorem rchallenge_any (r key : Int) (text : ByteArray) (w : World) (hs : text.size ≤ 140737488351900) :
    Calls Tryd.prog 49 #[.int .i64 r, .int .i64 key, .string text] w fun e w' => e = .returned (.int .i64 (chal r key text.data.toList)) ∧ Only (fun _ => False) w w' := by
  obtain ⟨x, hx⟩ : ∃ x, x = ByteArray.mk (by8 r).toArray := ⟨_, rfl⟩
  obtain ⟨y, hy⟩ : ∃ y, y = ByteArray.mk (by8 key).toArray := ⟨_, rfl⟩
  have hxz : x.size = 8 := by rw [hx]; exact by8_len r
  have hyz : y.size = 8 := by rw [hy]; exact by8_len key
  have HB1 := Lib.hid (fun W => rbytes_any r W)
  have HB2 := Lib.hid (fun W => rbytes_any key W)
  rw [← hx] at HB1
  rw [← hy] at HB2
  obtain ⟨t, ht⟩ : ∃ t, t = (⟨#[99]⟩ : ByteArray) ++ x ++ y ++ text := ⟨_, rfl⟩
  have hz : t.size ≤ 140737488353000 := by rw [ht, ByteArray.size_append, ByteArray.size_append, ByteArray.size_append, hxz, hyz]; show 1 + 8 + 8 + text.size ≤ _; omega
  have HC : Hid (chal r key text.data.toList = scal t.data.toList) := Lib.hid (by
    rw [ht, ByteArray.data_append, ByteArray.data_append, ByteArray.data_append, hx, hy]; unfold chal hashT; simp)
  have HS := Lib.hid (fun W => rscalar_any t W hz)
  rw [← HC.out] at HS
  have HT := Lib.hid ht.symm
  have n1 : ¬ (9223372036854775807 < 1 + x.size) := by omega
  have n2 : ¬ (9223372036854775807 < 1 + x.size + y.size) := by omega
  have n3 : ¬ (9223372036854775807 < 1 + x.size + y.size + text.size) := by omega
  clear hx hy hxz hyz ht hz HC hs
  obtain ⟨c, hc⟩ : ∃ c, c = chal r key text.data.toList := ⟨_, rfl⟩
  rw [← hc] at HS
  have HCC := Lib.hid hc
  clear hc
  go_enter Tryd.func49, Tryd.ntmps49
  go_wp2_with fail
  refine (HB1.out _).mono ?_
  rintro e w1 ⟨rfl, o1⟩
  have O1 := Lib.hid o1
  clear o1
  go_wp2_with fail
  refine (HB2.out _).mono ?_
  rintro e w2 ⟨rfl, o2⟩
  have O2 := Lib.hid (O1.out.trans o2 (fun _ _ h => h))
  clear o2
  go_wp2_with fail
  rw [HT.out]
  refine (HS.out _).mono ?_
  rintro e w3 ⟨rfl, o3⟩
  have O3 := Lib.hid (O2.out.trans o3 (fun _ _ h => h))
  clear o3
  go_wp2_with fail
  go_ret
  exact ⟨by rw [← HCC.out]; rfl, O3.out⟩
end Go.Proofs.YtjmdfipofgmakaaDoor
