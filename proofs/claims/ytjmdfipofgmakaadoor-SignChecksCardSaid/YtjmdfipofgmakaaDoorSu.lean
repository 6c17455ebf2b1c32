/-
  sign: exponent, public, challenge, Key: contracts.
-/
import Derived.Lib.MinMax
import Derived.Deep.RegionHeld3
import Derived.Test.YtjmdfipofgmakaaDoorSt
import Derived.Test.YtjmdfipofgmakaaDoorGe
namespace Go.Proofs.YtjmdfipofgmakaaDoor
open Go.RowKit Go.Shelf
set_option linter.unusedVariables false
set_option linter.unusedSimpArgs false

theorem expo_eq (s : Int) : (wrap64 (s.tmod 1152921504606845789 + 1152921504606845789)).tmod 1152921504606845789 = s % 1152921504606845789 := by
  have e0 := Int.emod_nonneg s (show (1152921504606845789 : Int) ≠ 0 by omega)
  have e1 := Int.emod_lt_of_pos s (show (0 : Int) < 1152921504606845789 by omega)
  by_cases h0 : 0 ≤ s
  · rw [Int.tmod_eq_emod_of_nonneg h0, show wrap64 (s % 1152921504606845789 + 1152921504606845789) = s % 1152921504606845789 + 1152921504606845789 by unfold wrap64; omega, Int.tmod_eq_emod_of_nonneg (by omega)]
    omega
  · obtain ⟨h1, h2, h3, h4⟩ := tmod_neg s 1152921504606845789 (by omega) (by omega)
    generalize s.tmod 1152921504606845789 = t at *
    rw [show wrap64 (t + 1152921504606845789) = t + 1152921504606845789 by unfold wrap64; omega, Int.tmod_eq_emod_of_nonneg (by omega)]
    by_cases h : t < 0
    · have := h1 h; omega
    · have := h2 h; omega
theorem expo_any (s : Int) (w : World) (hs : I64 s) :
    Calls Tryd.prog 78 #[.int .i64 s] w fun e w' => e = .returned (.int .i64 (s % 1152921504606845789)) ∧ w = w' := by
  obtain ⟨h1, h2⟩ := hs
  have HE := Lib.hid (expo_eq s)
  go_enter Tryd.func78, Tryd.ntmps78
  go_wp2_with fail
  go_ret
  exact ⟨ret_int HE.out, rfl⟩
/-- the public key of an exponent -/
def pubK (x : Int) : Int := pm 4 x.toNat 2305843009213691579
theorem pm_range (a : Int) (n : Nat) (m : Int) (hm : 1 ≤ m) : 0 ≤ pm a n m ∧ pm a n m < m := by
  unfold pm
  exact ⟨Int.emod_nonneg _ (by omega), Int.emod_lt_of_pos _ (by omega)⟩
theorem public_any (s : Int) (w : World) (hs : I64 s) :
    Calls Tryd.prog 76 #[.int .i64 s] w fun e w' => e = .returned (.int .i64 (pubK (s % 1152921504606845789))) ∧ Only (fun _ => False) w w' := by
  have H1 := Lib.hid hs
  have hx : 0 ≤ s % 1152921504606845789 ∧ s % 1152921504606845789 < 1152921504606845789 := by omega
  obtain ⟨x, hxe⟩ : ∃ x, x = s % 1152921504606845789 := ⟨_, rfl⟩
  rw [← hxe] at hx ⊢
  have HX := Lib.hid hxe.symm
  have HP := Lib.hid (show pubK x = pm 4 x.toNat 2305843009213691579 from rfl)
  clear hs hxe
  go_enter Tryd.func76, Tryd.ntmps76
  go_wp2_with fail
  refine (expo_any s _ H1.out).mono ?_
  rintro e w1 ⟨rfl, rfl⟩
  rw [HX.out]
  go_wp2_with fail
  refine (pow_any 4 x 2305843009213691579 _ (by omega) (by omega) (by unfold I64; omega) (by omega) (by omega)).mono ?_
  rintro e w1 ⟨rfl, o1⟩
  rw [← HP.out]
  obtain ⟨y, hy⟩ : ∃ y, y = pubK x := ⟨_, rfl⟩
  rw [← hy]
  have HY := Lib.hid hy
  clear hy
  go_wp2_with fail
  go_ret
  exact ⟨by rw [← HY.out]; rfl, o1⟩
/-- the challenge of a signature -/
def chal (r key : Int) (text : List UInt8) : Int := scal (hashT [99] text [r, key])
theorem challenge_any (r key : Int) (text : ByteArray) (w : World) (hs : text.size ≤ 140737488351900) :
    Calls Tryd.prog 79 #[.int .i64 r, .int .i64 key, .string text] w fun e w' => e = .returned (.int .i64 (chal r key text.data.toList)) ∧ Only (fun _ => False) w w' := by
  have hN := At.new w 3 [.int .i64 r, .int .i64 key]
  have HH := Lib.hid (hash_any ⟨#[99]⟩ text [r, key] (some ⟨w.heap.size, 0, none⟩) w.heap.size 2 2 (w.alloc (.cells [.int .i64 r, .int .i64 key].toArray 3)) rfl (by omega) (fun _ => rfl) (fun k v hv => hN.cell (i := k) (by match k, hv with | 0, hv => cases hv; rfl | 1, hv => cases hv; rfl)) (by show 1 + text.size ≤ _; omega))
  have HC := Lib.hid (show chal r key text.data.toList = scal (hashT (ByteArray.mk #[99]).data.toList text.data.toList [r, key]) from rfl)
  clear hN hs
  go_enter Tryd.func79, Tryd.ntmps79
  go_wp2_with fail
  refine HH.out.mono ?_
  rintro e w1 ⟨rfl, o1⟩
  rw [← HC.out]
  obtain ⟨y, hy⟩ : ∃ y, y = chal r key text.data.toList := ⟨_, rfl⟩
  rw [← hy]
  have HY := Lib.hid hy
  clear hy
  go_wp2_with fail
  go_ret
  exact ⟨by rw [← HY.out]; rfl, ((Only.refl _ w).alloc _).trans o1 (fun _ _ h => h)⟩
/-- a key out of a seed -/
def keyS (seed : List UInt8) : Int := max (scal (hashT [107] seed [])) 1
theorem keyS_range (seed : List UInt8) : 1 ≤ keyS seed ∧ keyS seed < 1152921504606845789 := by
  have := scal_range (hashT [107] seed [])
  unfold keyS
  omega
theorem key_any (seed : ByteArray) (w : World) (hs : seed.size ≤ 140737488351900) :
    Calls Tryd.prog 36 #[.string seed] w fun e w' => e = .returned (.tuple #[.int .i64 (keyS seed.data.toList), .int .i64 (pubK (keyS seed.data.toList))]) ∧ Only (fun _ => False) w w' := by
  have HH := Lib.hid (hash_any ⟨#[107]⟩ seed [] none 0 0 0 w rfl (by omega) (fun h => absurd h (by omega)) (fun k v hv => by simp at hv) (by show 1 + seed.size ≤ _; omega))
  have HC := Lib.hid (show keyS seed.data.toList = max (scal (hashT (ByteArray.mk #[107]).data.toList seed.data.toList [])) 1 from rfl)
  have HR := Lib.hid (keyS_range seed.data.toList)
  obtain ⟨y, hy⟩ : ∃ y, y = keyS seed.data.toList := ⟨_, rfl⟩
  rw [← hy] at HC HR ⊢
  clear hs hy
  go_enter Tryd.func36, Tryd.ntmps36
  go_wp2_with fail
  refine HH.out.mono ?_
  rintro e w1 ⟨rfl, o1⟩
  generalize scal (hashT (ByteArray.mk #[107]).data.toList seed.data.toList []) = z at *
  go_wp2_with fail
  rw [← HC.out]
  refine (public_any y _ (by have := HR.out; unfold I64; omega)).mono ?_
  rintro e w2 ⟨rfl, o2⟩
  rw [show y % 1152921504606845789 = y by have := HR.out; omega]
  obtain ⟨p, hp⟩ : ∃ p, p = pubK y := ⟨_, rfl⟩
  rw [← hp]
  have HP := Lib.hid hp
  clear hp
  go_wp2_with fail
  go_ret2
  exact ⟨by rw [← HP.out]; rfl, o1.trans o2 (fun _ _ h => h)⟩
theorem infoSig : (Tryd.prog.info? 52).map (·.size) = some 2 := by kernel_rfl
/-- signature: n, R, S -/
def nonceS (secret : Int) (text : List UInt8) : Int := max (scal (hashT [110] text [secret % 1152921504606845789])) 1
def sigR (secret : Int) (text : List UInt8) : Int := pubK (nonceS secret text)
def sigS (secret : Int) (text : List UInt8) : Int := (nonceS secret text + (secret % 1152921504606845789) * chal (sigR secret text) (pubK (secret % 1152921504606845789)) text % 1152921504606845789) % 1152921504606845789
theorem nonceS_range (x : Int) (t : List UInt8) : 1 ≤ nonceS x t ∧ nonceS x t < 1152921504606845789 := by
  have := scal_range (hashT [110] t [x % 1152921504606845789])
  unfold nonceS
  omega
set_option maxRecDepth 100000 in
theorem sign_any (secret : Int) (text : ByteArray) (w : World) (hx : I64 secret) (hs : text.size ≤ 140737488351900) :
    Calls Tryd.prog 38 #[.int .i64 secret, .string text] w fun e w' => e = .returned (.agg #[.int .i64 (sigR secret text.data.toList), .int .i64 (sigS secret text.data.toList)]) ∧ Only (fun _ => False) w w' := by
  have HX := Lib.hid hx
  obtain ⟨x, hxe⟩ : ∃ x, x = secret % 1152921504606845789 := ⟨_, rfl⟩
  have hxr : 0 ≤ x ∧ x < 1152921504606845789 := by omega
  have HXE := Lib.hid hxe.symm
  have HXR := Lib.hid hxr
  have HM := Lib.hid (show x % 1152921504606845789 = x by omega)
  have HZ := Lib.hid hs
  obtain ⟨n, hn⟩ : ∃ n, n = nonceS secret text.data.toList := ⟨_, rfl⟩
  have HN := Lib.hid (show n = max (scal (hashT (ByteArray.mk #[110]).data.toList text.data.toList [x])) 1 by rw [hn, hxe]; rfl)
  have HNR := Lib.hid (show 1 ≤ n ∧ n < 1152921504606845789 by rw [hn]; exact nonceS_range _ _)
  obtain ⟨r, hr⟩ : ∃ r, r = pubK n := ⟨_, rfl⟩
  have HRR := Lib.hid (show 0 ≤ r ∧ r < 2305843009213691579 by rw [hr]; exact pm_range _ _ _ (by omega))
  have HRE := Lib.hid (show pm 4 n.toNat 2305843009213691579 = r by rw [hr]; rfl)
  obtain ⟨k, hk⟩ : ∃ k, k = pubK x := ⟨_, rfl⟩
  have HK := Lib.hid hk.symm
  obtain ⟨c, hc⟩ : ∃ c, c = chal r k text.data.toList := ⟨_, rfl⟩
  have HC := Lib.hid hc.symm
  have HCR := Lib.hid (show 0 ≤ c ∧ c < 1152921504606845789 by rw [hc]; exact scal_range _)
  have HA := Lib.hid (show sigR secret text.data.toList = r by rw [hr, hn]; rfl)
  have HB := Lib.hid (show sigS secret text.data.toList = (n + x * c % 1152921504606845789) % 1152921504606845789 by rw [hc, hk, hr, hn, hxe]; rfl)
  have nw := At.new (w.alloc (.cells [.int .i64 0, .int .i64 0].toArray 52)) 3 [.int .i64 x]
  rw [show (w.alloc (.cells [.int .i64 0, .int .i64 0].toArray 52)).heap.size = w.heap.size + 1 by simp] at nw
  have NW := Lib.hid nw
  have A0 := Lib.hid ((At.new w 52 [.int .i64 0, .int .i64 0]).only ((Only.refl (fun _ => False) _).alloc (.cells [.int .i64 x].toArray 3)) (fun h => h))
  have O0 := Lib.hid ((((Only.refl (fun _ => False) w).alloc (.cells [.int .i64 0, .int .i64 0].toArray 52))).alloc (.cells [.int .i64 x].toArray 3))
  clear nw
  rw [HA.out, HB.out]
  clear hx hxe hxr hs hn hr hk hc HA HB
  go_enter Tryd.func38, Tryd.ntmps38
  go_wp2_with fail
  refine (expo_any secret _ HX.out).mono ?_
  rintro e w1 ⟨rfl, rfl⟩
  rw [HXE.out]
  go_wp2_with fail
  refine (hash_any ⟨#[110]⟩ text [x] (some ⟨w.heap.size + 1, 0, none⟩) (w.heap.size + 1) 1 1 _ rfl (by omega) (fun _ => rfl) (fun k v hv => NW.out.cell (i := k) (by match k, hv with | 0, hv => cases hv; rfl)) (by have := HZ.out; show 1 + text.size ≤ _; omega)).mono ?_
  rintro e w2 ⟨rfl, o2⟩
  have A2 := Lib.hid (A0.out.only o2 (fun h => h))
  have O2 := Lib.hid (O0.out.trans o2 (fun _ _ h => h))
  clear o2 A0 O0 NW
  generalize scal (hashT (ByteArray.mk #[110]).data.toList text.data.toList [x]) = z at *
  go_wp2_with fail
  rw [← HN.out]
  refine (pow_any 4 n 2305843009213691579 _ (by omega) (by omega) (by unfold I64; omega) (by have := HNR.out; omega) (by have := HNR.out; omega)).mono ?_
  rintro e w3 ⟨rfl, o3⟩
  rw [HRE.out]
  have A3 := Lib.hid (A2.out.only o3 (fun h => h))
  have O3 := Lib.hid (O2.out.trans o3 (fun _ _ h => h))
  clear o3 A2 O2
  go_wp2_with fail
  refine (public_any x _ (by have := HXR.out; unfold I64; omega)).mono ?_
  rintro e w4 ⟨rfl, o4⟩
  rw [HM.out, HK.out]
  have A4 := Lib.hid (A3.out.only o4 (fun h => h))
  have O4 := Lib.hid (O3.out.trans o4 (fun _ _ h => h))
  clear o4 A3 O3
  go_wp2_with fail
  refine (challenge_any r k text _ HZ.out).mono ?_
  rintro e w5 ⟨rfl, o5⟩
  rw [HC.out]
  have A5 := Lib.hid (A4.out.only o5 (fun h => h))
  have O5 := Lib.hid (O4.out.trans o5 (fun _ _ h => h))
  clear o5 A4 O4
  go_wp2_with fail
  refine (mul_any x c 1152921504606845789 _ (by omega) (by omega) (by have := HXR.out; unfold I64; omega) (by have := HCR.out; unfold I64; omega)).mono ?_
  rintro e w6 ⟨rfl, j, rfl⟩
  obtain ⟨y, hy⟩ : ∃ y, y = x * c % 1152921504606845789 := ⟨_, rfl⟩
  have HY := Lib.hid hy
  have HYR := Lib.hid (show 0 ≤ y ∧ y < 1152921504606845789 by rw [hy]; exact ⟨Int.emod_nonneg _ (by omega), Int.emod_lt_of_pos _ (by omega)⟩)
  rw [← hy]
  clear hy
  go_wp2_with fail
  refine (add_any n y 1152921504606845789 _ (by omega) (by omega) (by have := HNR.out; unfold I64; omega) (by have := HYR.out; unfold I64; omega)).mono ?_
  rintro e w7 ⟨rfl, rfl⟩
  obtain ⟨v, hv⟩ : ∃ v, v = (n + y) % 1152921504606845789 := ⟨_, rfl⟩
  have HV := Lib.hid hv
  rw [← hv]
  clear hv
  have a6 := A5.out.drewN j
  have c0 := a6.cell (i := 0) rfl
  have c1 := a6.cell (i := 1) rfl
  have f0 := a6.frozen 0
  have f1 := a6.frozen 1
  clear a6
  go_wp2_with fail
  have hE : At _ w.heap.size 52 [.int .i64 r, .int .i64 v] := ((A5.out.drewN j).put 0 (.int .i64 r)).put 1 (.int .i64 v)
  refine bodyPost_ret (results_all rfl _ w.heap.size rfl 52 [.int .i64 r, .int .i64 v] _ hE Tryd.underlying52 rfl infoSig) rfl ⟨?_, ?_⟩
  · rw [HV.out, HY.out]
  · exact ((O5.out.drewN j).put (p := ⟨w.heap.size, 0, none⟩) (fun h => absurd h (Nat.lt_irrefl _)) _).put (p := ⟨w.heap.size, 1, none⟩) (fun h => absurd h (Nat.lt_irrefl _)) _
/-- is a signature accepted -/
def verB (key : Int) (text : List UInt8) (r s : Int) : Bool :=
  memB key && (memB r && (decide (0 ≤ s) && (decide (s < 1152921504606845789) && (pm 4 s.toNat 2305843009213691579 == r * pm key (chal r key text).toNat 2305843009213691579 % 2305843009213691579))))
theorem mul_only (a b m : Int) (w : World) (hm : 1 ≤ m) (hm2 : m ≤ 9223372036854775807) (ha : I64 a) (hb : I64 b) :
    Calls Tryd.prog 57 #[.int .i64 a, .int .i64 b, .int .i64 m] w fun e w' => e = .returned (.int .i64 (a * b % m)) ∧ Only (fun _ => False) w w' :=
  (mul_any a b m w hm hm2 ha hb).mono (fun e w' h => by obtain ⟨h1, n, rfl⟩ := h; exact ⟨h1, (Only.refl _ w).drewN n⟩)
theorem keepS {w X W : World} {g : Nat} {r s : Int} (h : X.cell? ⟨g, 0, none⟩ = some (.int .i64 r) ∧ X.cell? ⟨g, 1, none⟩ = some (.int .i64 s) ∧ Hid (Only (fun _ => False) w X)) (o : Only (fun _ => False) X W) :
    W.cell? ⟨g, 0, none⟩ = some (.int .i64 r) ∧ W.cell? ⟨g, 1, none⟩ = some (.int .i64 s) ∧ Hid (Only (fun _ => False) w W) :=
  ⟨o.cell h.1 (fun h => h), o.cell h.2.1 (fun h => h), h.2.2.out.trans o (fun _ _ h => h)⟩
theorem endS {w W : World} {g : Nat} {r s : Int} (h : W.cell? ⟨g, 0, none⟩ = some (.int .i64 r) ∧ W.cell? ⟨g, 1, none⟩ = some (.int .i64 s) ∧ Hid (Only (fun _ => False) w W)) : Only (fun _ => False) w W := h.2.2.out
theorem memB_range {a : Int} (h : memB a = true) : 1 ≤ a ∧ a < 2305843009213691579 := by
  unfold memB at h
  have := of_decide_eq_true h
  omega
set_option maxRecDepth 100000 in
theorem verify_any (key : Int) (text : ByteArray) (r s : Int) (w : World) (hk : I64 key) (hr : I64 r) (hsg : I64 s) (hs : text.size ≤ 140737488351900) :
    Calls Tryd.prog 40 #[.int .i64 key, .string text, .agg #[.int .i64 r, .int .i64 s]] w fun e w' => e = .returned (.bool (verB key text.data.toList r s)) ∧ Only (fun _ => False) w w' := by
  have HK := Lib.hid hk
  have HR := Lib.hid hr
  have HZ := Lib.hid hs
  have A0 := Lib.hid (At.new w 52 [.int .i64 r, .int .i64 s])
  have O0 := Lib.hid ((Only.refl (fun _ => False) w).alloc (.cells [.int .i64 r, .int .i64 s].toArray 52))
  have MK := Lib.hid (fun w => member_any key w hk)
  have MR := Lib.hid (fun w => member_any r w hr)
  have HV := Lib.hid (show verB key text.data.toList r s = (memB key && (memB r && (decide (0 ≤ s) && (decide (s < 1152921504606845789) && (pm 4 s.toNat 2305843009213691579 == r * pm key (chal r key text.data.toList).toNat 2305843009213691579 % 2305843009213691579))))) from rfl)
  clear hk hr hs
  by_cases h1 : memB key = true
  · have HKR := Lib.hid (memB_range h1)
    by_cases h2 : memB r = true
    · have HRR := Lib.hid (memB_range h2)
      by_cases h3 : 0 ≤ s
      · by_cases h4 : s < 1152921504606845789
        · rw [h1, h2, decide_eq_true h3, decide_eq_true h4, Bool.true_and, Bool.true_and, Bool.true_and, Bool.true_and] at HV
          rw [h1] at MK
          rw [h2] at MR
          go_enter Tryd.func40, Tryd.ntmps40
          go_wp2_with fail
          refine (MK.out _).mono ?_
          rintro e w1 ⟨rfl, o1⟩
          have A1 := Lib.hid (A0.out.only o1 (fun h => h))
          have O1 := Lib.hid (O0.out.trans o1 (fun _ _ h => h))
          have c0 := A1.out.cell (i := 0) rfl
          have c1 := A1.out.cell (i := 1) rfl
          clear o1 A0 O0
          go_wp2_with fail
          refine (MR.out _).mono ?_
          rintro e w2 ⟨rfl, o2⟩
          have A2 := Lib.hid (A1.out.only o2 (fun h => h))
          have O2 := Lib.hid (O1.out.trans o2 (fun _ _ h => h))
          have d0 := A2.out.cell (i := 0) rfl
          have d1 := A2.out.cell (i := 1) rfl
          clear o2 A1 O1 c0 c1
          obtain ⟨e, he⟩ : ∃ e, e = chal r key text.data.toList := ⟨_, rfl⟩
          have HE := Lib.hid (show 0 ≤ e ∧ e < 1152921504606845789 by rw [he]; exact scal_range _)
          obtain ⟨a, ha⟩ : ∃ a, a = pm 4 s.toNat 2305843009213691579 := ⟨_, rfl⟩
          obtain ⟨b, hb⟩ : ∃ b, b = pm key e.toNat 2305843009213691579 := ⟨_, rfl⟩
          have HBR := Lib.hid (show 0 ≤ b ∧ b < 2305843009213691579 by rw [hb]; exact pm_range _ _ _ (by omega))
          obtain ⟨c, hc⟩ : ∃ c, c = r * b % 2305843009213691579 := ⟨_, rfl⟩
          rw [← he, ← ha, ← hb, ← hc] at HV
          have HCE := Lib.hid he.symm
          have PA := Lib.hid (show ∀ W, Calls Tryd.prog 54 #[.int .i64 4, .int .i64 s, .int .i64 2305843009213691579] W fun e w' => e = .returned (.int .i64 a) ∧ Only (fun _ => False) W w' from fun W => by rw [ha]; exact pow_any 4 s _ W (by omega) (by omega) (by unfold I64; omega) h3 (by omega))
          have PB := Lib.hid (show ∀ W, Calls Tryd.prog 54 #[.int .i64 key, .int .i64 e, .int .i64 2305843009213691579] W fun e w' => e = .returned (.int .i64 b) ∧ Only (fun _ => False) W w' from fun W => by rw [hb]; exact pow_any key e _ W (by omega) (by omega) HK.out HE.out.1 (by have := HE.out; omega))
          have PC := Lib.hid (show ∀ W, Calls Tryd.prog 57 #[.int .i64 r, .int .i64 b, .int .i64 2305843009213691579] W fun e w' => e = .returned (.int .i64 c) ∧ Only (fun _ => False) W w' from fun W => by rw [hc]; exact mul_only r b _ W (by omega) (by omega) HR.out (by have := HBR.out; unfold I64; omega))
          clear he ha hb hc
          go_wp2_with fail
          refine (challenge_any r key text _ HZ.out).mono ?_
          rintro e' w3 ⟨rfl, o3⟩
          rw [HCE.out]
          have A3 := Lib.hid (A2.out.only o3 (fun h => h))
          have O3 := Lib.hid (O2.out.trans o3 (fun _ _ h => h))
          clear o3 A2 O2 d0 d1
          go_wp2_with fail
          go_region_held3 (fun W => W.cell? ⟨w.heap.size, 0, none⟩ = some (.int .i64 r) ∧ W.cell? ⟨w.heap.size, 1, none⟩ = some (.int .i64 s) ∧ Hid (Only (fun _ => False) w W)) ((first | exact keepS (by assumption) (by assumption) | exact ⟨(A3.out.drewN 1).cell (i := 0) rfl, (A3.out.drewN 1).cell (i := 1) rfl, O3.out.drewN 1⟩)) (first | (go_at_call_of 54 (Value.int IntKind.i64 4); refine (PA.out _).mono ?_; rintro e' w4 ⟨rfl, o4⟩) | (go_at_call_of 54 (Value.int IntKind.i64 key); refine (PB.out _).mono ?_; rintro e' w5 ⟨rfl, o5⟩) | (go_at_call 57; refine (PC.out _).mono ?_; rintro e' w6 ⟨rfl, o6⟩))
          all_goals go_wp2_with fail
          all_goals go_ret
          all_goals exact ⟨by rw [HV.out]; rfl, endS (g := w.heap.size) (r := r) (s := s) (by assumption)⟩
        · rw [h1, h2, decide_eq_true h3, decide_eq_false h4, Bool.false_and, Bool.and_false, Bool.and_false, Bool.and_false] at HV
          rw [h1] at MK
          rw [h2] at MR
          go_enter Tryd.func40, Tryd.ntmps40
          go_wp2_with fail
          refine (MK.out _).mono ?_
          rintro e w1 ⟨rfl, o1⟩
          have A1 := Lib.hid (A0.out.only o1 (fun h => h))
          have O1 := Lib.hid (O0.out.trans o1 (fun _ _ h => h))
          have c0 := A1.out.cell (i := 0) rfl
          have c1 := A1.out.cell (i := 1) rfl
          clear o1 A0 O0
          go_wp2_with fail
          refine (MR.out _).mono ?_
          rintro e w2 ⟨rfl, o2⟩
          have A2 := Lib.hid (A1.out.only o2 (fun h => h))
          have O2 := Lib.hid (O1.out.trans o2 (fun _ _ h => h))
          have d0 := A2.out.cell (i := 0) rfl
          have d1 := A2.out.cell (i := 1) rfl
          clear o2 A1 O1 c0 c1
          go_wp2_with fail
          go_ret
          exact ⟨by rw [HV.out]; rfl, O2.out⟩
      · rw [h1, h2, decide_eq_false h3, Bool.false_and, Bool.and_false, Bool.and_false] at HV
        rw [h1] at MK
        rw [h2] at MR
        go_enter Tryd.func40, Tryd.ntmps40
        go_wp2_with fail
        refine (MK.out _).mono ?_
        rintro e w1 ⟨rfl, o1⟩
        have A1 := Lib.hid (A0.out.only o1 (fun h => h))
        have O1 := Lib.hid (O0.out.trans o1 (fun _ _ h => h))
        have c0 := A1.out.cell (i := 0) rfl
        have c1 := A1.out.cell (i := 1) rfl
        clear o1 A0 O0
        go_wp2_with fail
        refine (MR.out _).mono ?_
        rintro e w2 ⟨rfl, o2⟩
        have A2 := Lib.hid (A1.out.only o2 (fun h => h))
        have O2 := Lib.hid (O1.out.trans o2 (fun _ _ h => h))
        have d0 := A2.out.cell (i := 0) rfl
        have d1 := A2.out.cell (i := 1) rfl
        clear o2 A1 O1 c0 c1
        go_wp2_with fail
        go_ret
        exact ⟨by rw [HV.out]; rfl, O2.out⟩
    · have h2' : memB r = false := by simpa using h2
      rw [h1, h2', Bool.false_and, Bool.and_false] at HV
      rw [h1] at MK
      rw [h2'] at MR
      go_enter Tryd.func40, Tryd.ntmps40
      go_wp2_with fail
      refine (MK.out _).mono ?_
      rintro e w1 ⟨rfl, o1⟩
      have A1 := Lib.hid (A0.out.only o1 (fun h => h))
      have O1 := Lib.hid (O0.out.trans o1 (fun _ _ h => h))
      have c0 := A1.out.cell (i := 0) rfl
      have c1 := A1.out.cell (i := 1) rfl
      clear o1 A0 O0
      go_wp2_with fail
      refine (MR.out _).mono ?_
      rintro e w2 ⟨rfl, o2⟩
      have A2 := Lib.hid (A1.out.only o2 (fun h => h))
      have O2 := Lib.hid (O1.out.trans o2 (fun _ _ h => h))
      have d0 := A2.out.cell (i := 0) rfl
      have d1 := A2.out.cell (i := 1) rfl
      clear o2 A1 O1 c0 c1
      go_wp2_with fail
      go_ret
      exact ⟨by rw [HV.out]; rfl, O2.out⟩
  · have h1' : memB key = false := by simpa using h1
    rw [h1', Bool.false_and] at HV
    rw [h1'] at MK
    go_enter Tryd.func40, Tryd.ntmps40
    go_wp2_with fail
    refine (MK.out _).mono ?_
    rintro e w1 ⟨rfl, o1⟩
    have A1 := Lib.hid (A0.out.only o1 (fun h => h))
    have O1 := Lib.hid (O0.out.trans o1 (fun _ _ h => h))
    have c0 := A1.out.cell (i := 0) rfl
    have c1 := A1.out.cell (i := 1) rfl
    clear o1 A0 O0
    go_wp2_with fail
    go_ret
    exact ⟨by rw [HV.out]; rfl, O1.out⟩
end Go.Proofs.YtjmdfipofgmakaaDoor
