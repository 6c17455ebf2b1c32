/-
  The walk of NetWhole.
-/
import Derived.Test.YtmhkdpmcnaeaiaaWh
import Derived.Lib.MinMax
namespace Go.Proofs.Ytmhkdpmcnaeaiaa
open Go.RowKit
set_option linter.unusedVariables false


set_option maxRecDepth 20000 in
set_option maxHeartbeats 8000000 in
theorem whole_any (A : Option Addr) (c : Nat) (L0 : List Ms) (nodes delay : Int) (w : World) (hr : RdM w A L0) (hm : L0.length ≤ 9223372036854775807) (hc : L0.length ≤ c) (hn0 : 0 ≤ nodes) (hn1 : nodes ≤ 255) (hd0 : 0 ≤ delay) (hd1 : delay ≤ 65535) :
    Calls Try.prog 6 #[.slice A L0.length c, .int .u8 nodes, .int .u16 delay] w fun r w' => r = .returned (.bool true) ∧ Only (fun _ => False) w w' := by
  have HR := hide hr
  clear hr
  obtain ⟨nd, hnd⟩ : ∃ nd, nodes % 5 = nd := ⟨_, rfl⟩
  obtain ⟨dl, hdl⟩ : ∃ dl, delay % 1000 = dl := ⟨_, rfl⟩
  have hnb0 : 0 ≤ nd := by omega
  have hnb1 : nd < 5 := by omega
  have hdb0 : 0 ≤ dl := by omega
  have hdb1 : dl < 1000 := by omega
  go_enter Try.func6, Try.ntmps6
  go_wp2_with fail
  refine (sanity_any _).mono ?_
  rintro r w1 ⟨rfl, o1⟩
  have R1 := hide ((unhide HR).only o1 (fun _ h => h.elim))
  have O1 := hide o1
  clear o1 HR
  go_wp2_with fail
  rw [hnd, hdl]
  have hw0 : Ow (w1.alloc (.cells #[.bool false, .int .i64 0, .int .i64 dl] 44)) 44 3 (.slice (some ⟨w1.heap.size, 0, none⟩) 1 1) ([⟨false, 0, dl⟩] : List Tr).length (([⟨false, 0, dl⟩] : List Tr).flatMap Tr.cells) :=
    Ow.mk (sp := []) (At.new w1 44 [.bool false, .int .i64 0, .int .i64 dl]) rfl (Nat.le_refl _) (by simp [maxLen]) rfl
  refine (new_B (B := w1.heap.size) nd _ [⟨false, 0, dl⟩] (by simp) hw0 (by simp)).mono ?_
  rintro r w2 ⟨nb, rfl, n2, o2⟩
  have o2' : Only (fun _ => False) w1 w2 := ((Only.refl (fun _ => False) w1).alloc _).trans o2 (fun _ _ h => h)
  have hs2 : w1.heap.size ≤ w2.heap.size := o2'.size
  have K2 := hide (Kept.of_empty (B := w1.heap.size) o2')
  obtain ⟨n, hn⟩ : ∃ n, min L0.length 30 = n := ⟨_, rfl⟩
  have hnl : (L0.take n).length = n := by rw [List.length_take]; omega
  have hmin : min (L0.length : Int) 30 = n := by omega
  have hn30 : n ≤ 30 := by omega
  have hnc : n ≤ L0.length := by omega
  obtain ⟨L, hL⟩ : ∃ L, L0.take n = L := ⟨_, rfl⟩
  have R2 := hide ((unhide R1).take n)
  rw [hL] at R2 hnl
  have N2 := hide (show NetB _ _ nb (wS nd dl L 0) from n2)
  clear n2 o2 o2' hw0 R1 hL hn
  go_wp2_with fail
  go_loopw [10] (fun kv wr => ∃ j : Nat, kv = .int .i64 j ∧ j ≤ n ∧ NetB w1.heap.size wr nb (wS nd dl L j) ∧ Kept w1.heap.size w1 wr) (fun kv _ => 30 - (intOf kv).toNat)
  case atStart => exact ⟨0, rfl, Nat.zero_le _, unhide N2, unhide K2⟩
  case round =>
    obtain ⟨j, rfl, hj, hn, hk⟩ := hrel
    have hsz := hk.only.size
    have HNn := hide hn
    have HK := hide hk
    clear hn hk
    by_cases hjl : j < n
    · obtain ⟨b, off, rfl, hc⟩ := (unhide R2) (by omega)
      obtain ⟨q0, q1, q2⟩ := hc j (by omega)
      have hblt := World.block_lt_of_cell? w1 _ q0
      have d0 := (unhide HK).only.cell q0 (fun hs => by dsimp only at hs hblt; omega)
      have d1 := (unhide HK).only.cell q1 (fun hs => by dsimp only at hs hblt; omega)
      have d2 := (unhide HK).only.cell q2 (fun hs => by dsimp only at hs hblt; omega)
      have DS := hide (show (wS nd dl L j).send (10 * j) (msAt L j).fr (msAt L j).dt (msAt L j).tx = wS nd dl L (j + 1) from rfl)
      have ok : (wS nd dl L j).sc.length ≤ 1000000 ∧ (wS nd dl L j).sn < 1000000 ∧ ((wS nd dl L j).drops (msAt L j).fr (msAt L j).dt ∨ (-1000000000000 ≤ (10 * (j : Int)) ∧ (10 * (j : Int)) ≤ 1000000000000 ∧ (wS nd dl L j).next.delay ≤ 1000000000000 ∧ (wS nd dl L j).ws.length ≤ 900000)) := by
        have hl := wA_len nd dl L j
        rw [wS_eq nd dl L hdb0 j, wA_next]
        exact ⟨by simp [wA], by simp only [wA]; omega, .inr ⟨by omega, by omega, by dsimp only; omega, by omega⟩⟩
      have OK := hide ok
      clear hc q0 q1 q2 hblt ok
      generalize hmx : msAt L j = mx at *
      clear hmx
      obtain ⟨fr, dt, tx⟩ := mx
      dsimp only at *
      go_wp2_with fail
      refine (send_B (10 * j) fr dt tx (unhide HNn) hsz (unhide OK).1 (unhide OK).2.1 (unhide OK).2.2).mono ?_
      rintro r w4 ⟨rfl, n4, k4⟩
      rw [unhide DS] at n4
      have N4 := hide n4
      have K4 := hide ((unhide HK).trans k4)
      clear n4 k4 HK HNn d0 d1 d2 DS OK
      go_wp2_with fail
      go_roundw
      case rel => exact ⟨j + 1, by go_num, hjl, unhide N4, unhide K4⟩
      case measure => simp [intOf]; omega
    · obtain rfl : n = j := by omega
      have hn0 := (unhide HNn)
      rw [wS_eq nd dl L hdb0] at hn0
      have N5 := hide (show NetB w1.heap.size wr nb { wA nd dl L n with ws := wR nd dl L n 0 } by rw [wR_zero]; exact hn0)
      have K5 := hide (unhide HK)
      have hsz5 := hsz
      clear hn0 HNn HK N2 K2 hsz hj
      go_wp2_with fail
      obtain ⟨wo, hwo⟩ : ∃ wo : World, wo = wr := ⟨_, rfl⟩
      subst hwo
      go_loopw [6, 11] (fun ov kv wr => ∃ k : Nat, ov = .bool false ∧ kv = .int .i64 k ∧ k ≤ n ∧ NetB w1.heap.size wr nb { wA nd dl L n with ws := wR nd dl L n k } ∧ Kept w1.heap.size w1 wr) (fun _ kv _ => 30 - (intOf kv).toNat)
      case atStart => exact ⟨0, rfl, rfl, Nat.zero_le _, unhide N5, unhide K5⟩
      case round =>
        obtain ⟨k, rfl, rfl, hk, hn, hkk⟩ := hrel
        have hsz := hkk.only.size
        have HNn := hide hn
        have HK := hide hkk
        clear hn hkk N5 K5
        by_cases hkn : k < n
        · obtain ⟨b, off, rfl, hc⟩ := (unhide R2) (by omega)
          obtain ⟨q0, q1, q2⟩ := hc k (by omega)
          have hblt := World.block_lt_of_cell? w1 _ q0
          have d1 := (unhide HK).only.cell q1 (fun hs => by dsimp only at hs hblt; omega)
          have hwl := wR_len nd dl L n k
          have hkn' : (k : Int) < n := by omega
          have HC := hide hc
          cases hx : nodeB nd (msAt L k).dt
          · have hnone := wR_none nd dl L hkn hx
            have N6 := unhide HNn
            rw [hnone] at N6
            have N6 := hide N6
            unfold nodeB at hx
            rw [decide_eq_false_iff_not] at hx
            clear hc q0 q1 q2 hblt HNn hnone HC
            generalize (msAt L k).dt = dt at *
            by_cases hdt : dt < 0
            · go_wp2_with fail
              go_roundw
              case rel => exact ⟨k + 1, rfl, by go_num, hkn, unhide N6, unhide HK⟩
              case measure => simp [intOf]; omega
            · have hdt2 : nd ≤ dt := by omega
              go_wp2_with fail
              go_roundw
              case rel => exact ⟨k + 1, rfl, by go_num, hkn, unhide N6, unhide HK⟩
              case measure => simp [intOf]; omega
          · obtain ⟨hsome, hlt⟩ := wR_some nd dl L hkn hx
            have HS := hide hsome
            have HL := hide hlt
            unfold nodeB at hx
            rw [decide_eq_true_eq] at hx
            have hx0 : ¬ (msAt L k).dt < 0 := by omega
            have hx1 : ¬ nd ≤ (msAt L k).dt := by omega
            have Q0 := hide q0
            have Q1 := hide q1
            have Q2 := hide q2
            clear hc q0 q1 q2 hsome hlt hx HC
            generalize hmx : msAt L k = mx at *
            clear hmx
            obtain ⟨fr, dt, tx⟩ := mx
            dsimp only at *
            go_wp2_with fail
            refine (next_sorted (unhide HNn) hsz (by dsimp only; omega) ⟨fr, dt, tx, 10 * k + dl, k⟩ _ (unhide HS) (unhide HL)).mono ?_
            rintro r w5 ⟨rfl, n5, k5⟩
            have k5' := (unhide HK).trans k5
            have d0 := k5'.only.cell (unhide Q0) (fun hs => by dsimp only at hs hblt; omega)
            have d1 := k5'.only.cell (unhide Q1) (fun hs => by dsimp only at hs hblt; omega)
            have d2 := k5'.only.cell (unhide Q2) (fun hs => by dsimp only at hs hblt; omega)
            have hnew := At.new w5 31 [.int .i64 fr, .int .i64 dt, .string tx]
            have o6 := (Only.refl (fun _ => False) w5).alloc (.cells #[.int .i64 fr, .int .i64 dt, .string tx] 31)
            have e0 := o6.cell d0 (fun h => h)
            have e1 := o6.cell d1 (fun h => h)
            have e2 := o6.cell d2 (fun h => h)
            have m0 := hnew.cell (i := 0) rfl
            have m1 := hnew.cell (i := 1) rfl
            have m2 := hnew.cell (i := 2) rfl
            have K6 := hide (k5'.trans (Kept.of_empty o6))
            have N5 := hide n5
            have O6 := hide o6
            clear hnew d0 d1 d2 n5 k5 k5' o6 HNn HK Q0 Q1 Q2 HS HL
            have i1 := IntWalk.i64_in (10 * (k : Int)) (by omega)
            have i2 := IntWalk.i64_in (10 * (k : Int) + dl) (by omega)
            dsimp only
            go_wp2_with fail
            go_quiet (fail)
            go_wp2_with fail
            go_roundw
            case rel => exact ⟨k + 1, rfl, by go_num, hkn, ((unhide N5).keep (unhide O6)).keep ((Only.refl (fun _ => False) _).drewN _), (unhide K6).trans (Kept.of_empty ((Only.refl (fun _ => False) _).drewN _))⟩
            case measure => simp [intOf]; omega
        · obtain rfl : n = k := by omega
          have N6 := unhide HNn
          rw [wR_end] at N6
          have N6 := hide N6
          clear HNn
          go_wp2_with fail
          refine (waits_B 0 (unhide N6) rfl).mono ?_
          rintro r w' ⟨rfl, rfl⟩
          go_wp2_with fail
          go_ret
          exact ⟨rfl, (unhide O1).trans (unhide HK).empty (fun _ _ h => h)⟩

end Go.Proofs.Ytmhkdpmcnaeaiaa
