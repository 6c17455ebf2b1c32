/-
  The walk of NetAlone.
-/
import Derived.Test.YtmhkdpmcnaeaiaaAl
import Derived.Lib.MinMax
namespace Go.Proofs.Ytmhkdpmcnaeaiaa
open Go.RowKit
set_option linter.unusedVariables false

set_option maxRecDepth 20000 in
set_option maxHeartbeats 8000000 in
theorem alone_any (A U : Option Addr) (c d : Nat) (l : List Tr) (T : List Int) (now : Int) (w : World) (hr : RdT w A l) (hm : l.length ≤ 9223372036854775807) (hd : ∀ t ∈ l, i64ok t.delay)
    (hu : RdU .u16 w U T) (hT : T.length ≤ 9223372036854775807) (hTd : T.length ≤ d) (hTb : ∀ i, 0 ≤ T.getD i 0 ∧ T.getD i 0 ≤ 65535) (hn0 : 0 ≤ now) (hn1 : now ≤ 65535) :
    Calls Try.prog 5 #[.slice A l.length c, .slice U T.length d, .int .u16 now] w fun r w' => r = .returned (.bool true) ∧ Only (fun _ => False) w w' := by
  have HR := hide hr
  have HD := hide hd
  have HU := hide hu
  have HB := hide hTb
  clear hr hd hu hTb
  go_enter Try.func5, Try.ntmps5
  go_wp2_with fail
  refine (sanity_any _).mono ?_
  rintro r w1 ⟨rfl, o1⟩
  have R1 := hide ((unhide HR).only o1 (fun _ h => h.elim))
  have U1 := hide ((unhide HU).only o1 (fun _ h => h.elim))
  have O1 := hide o1
  clear o1 HR HU
  go_wp2_with fail
  refine (script_any A c l _ (unhide R1) hm (unhide HD)).mono ?_
  rintro r w2 ⟨sv, rfl, s2, o2, f2⟩
  have o2' := (unhide O1).trans o2 (fun _ _ h => h)
  have U2 := hide ((unhide U1).only o2 (fun _ h => h.elim))
  have hsl := scriptOf_len l
  generalize hsc : scriptOf l = sc at *
  have hnext : ∀ s : Nst, s.sc = sc → s.next.delay < 100000 := fun s hs => next_bd s l (by rw [hs, hsc])
  have HN := hide hnext
  have S2 := hide s2
  have O2 := hide o2'
  clear s2 o2 f2 o2' O1 R1 HD U1 hnext hsc
  go_wp2_with fail
  refine (new_B (B := w2.heap.size) 2 sv sc (Nat.le_refl _) (unhide S2) (by omega)).mono ?_
  rintro r w3 ⟨nb, rfl, n3, o3⟩
  have S3 := hide ((unhide S2).only o3 (fun _ _ h => h))
  have N3 := hide n3
  have O3 := hide o3
  have hs3 : w2.heap.size ≤ w3.heap.size := o3.size
  clear n3 o3
  go_wp2_with fail
  refine (new_B (B := w3.heap.size) 2 sv sc (Nat.le_refl _) (unhide S3) (by omega)).mono ?_
  rintro r w4 ⟨mb, rfl, n4, o4⟩
  have T4 := hide (show Two w2.heap.size w4 nb (aS sc T 0) mb (bS sc 0) from Two.mk (unhide N3) o4 n4 hs3)
  have K4 := hide (Kept.of_empty (B := w2.heap.size) ((unhide O3).trans o4 (fun _ _ h => h)))
  obtain ⟨n, hn⟩ : ∃ n, min T.length 30 = n := ⟨_, rfl⟩
  have hmin : min (T.length : Int) 30 = n := by omega
  have hn30 : n ≤ 30 := by omega
  have hnc : n ≤ T.length := by omega
  clear n4 o4 N3 O3 S3 hn hs3
  go_wp2_with fail
  go_loopw [11] (fun kv wr => ∃ j : Nat, kv = .int .i64 j ∧ j ≤ n ∧ Two w2.heap.size wr nb (aS sc T j) mb (bS sc j) ∧ Kept w2.heap.size w2 wr) (fun kv _ => 30 - (intOf kv).toNat)
  case atStart => exact ⟨0, rfl, Nat.zero_le _, unhide T4, unhide K4⟩
  case round =>
    obtain ⟨j, rfl, hj, hn, hk⟩ := hrel
    have hsz := hk.only.size
    have hsame := aS_same sc T j
    have HS := hide hsame
    have hdly := (unhide HN) (aS sc T j) hsame.2.1
    have hdly2 := (unhide HN) (bS sc j) rfl
    have hle := aS_le sc T j
    have HNn := hide hn
    have HK := hide hk
    clear hn hk T4 K4 hsame
    by_cases hjl : j < n
    · obtain ⟨b, off, rfl, hc⟩ := (unhide U2) (by omega)
      have q0 := hc j (by omega)
      have hblt := World.block_lt_of_cell? w2 _ q0
      have d0 := (unhide HK).only.cell q0 (fun hs => by dsimp only at hs hblt; omega)
      have hb := (unhide HB) j
      have hb1 := hb.1
      have hb2 := hb.2
      have DS := hide (show (aS sc T j).send (T.getD j 0) j 1 txOther = aS sc T (j + 1) from rfl)
      have ok : (aS sc T j).sc.length ≤ 1000000 ∧ (aS sc T j).sn < 1000000 ∧ ((aS sc T j).drops j 1 ∨ (-1000000000000 ≤ T.getD j 0 ∧ T.getD j 0 ≤ 1000000000000 ∧ (aS sc T j).next.delay ≤ 1000000000000 ∧ (aS sc T j).ws.length ≤ 900000)) :=
        ⟨by rw [(unhide HS).2.1]; omega, by rw [(unhide HS).2.2.1]; omega, .inr ⟨by omega, by omega, by omega, by omega⟩⟩
      have OK := hide ok
      clear hc q0 hblt ok hb
      generalize htx : T.getD j 0 = t at *
      clear htx
      go_wp2_with fail
      refine (send_T t j 1 txOther (unhide HNn) hsz (unhide OK).1 (unhide OK).2.1 (unhide OK).2.2).mono ?_
      rintro r w5 ⟨rfl, t5, k5⟩
      rw [unhide DS] at t5
      have T5 := hide t5.symm
      have hsz5 : w2.heap.size ≤ w5.heap.size := Nat.le_trans hsz k5.only.size
      have K5 := hide ((unhide HK).trans k5)
      clear t5 k5 HK HNn d0 DS OK
      go_wp2_with fail
      refine (send_T 0 0 5 ⟨#[]⟩ (unhide T5) hsz5 (by simp only [bS]; omega) (by simp only [bS]; omega) (.inl (.inr (.inl (show nodeB 2 5 = false by decide +kernel))))).mono ?_
      rintro r w6 ⟨rfl, t6, k6⟩
      rw [bS_next] at t6
      have T6 := hide t6.symm
      have K6 := hide ((unhide K5).trans k6)
      clear t6 k6 T5 K5
      go_wp2_with fail
      go_roundw
      case rel => exact ⟨j + 1, by go_num, hjl, unhide T6, unhide K6⟩
      case measure => simp [intOf]; omega
    · obtain rfl : n = j := by omega
      have hst := al_start sc T n now
      have HST := hide hst.1
      have hlen := hst.2
      have xb := At.new wr 31 [.int .i64 7, .int .i64 0, .string txThis]
      have xo := (Only.refl (fun _ => False) wr).alloc (.cells #[.int .i64 7, .int .i64 0, .string txThis] 31)
      have T5 := hide ((unhide HNn).keep xo)
      have hsz5 := Nat.le_trans hsz xo.size
      have K5 := hide ((unhide HK).trans (Kept.of_empty xo))
      have x0 := xb.cell (i := 0) rfl
      have x1 := xb.cell (i := 1) rfl
      have x2 := xb.cell (i := 2) rfl
      have XB := hide xb
      have ok : (aS sc T n).sc.length ≤ 1000000 ∧ (aS sc T n).sn < 1000000 ∧ ((aS sc T n).drops 7 0 ∨ (-1000000000000 ≤ now ∧ now ≤ 1000000000000 ∧ (aS sc T n).next.delay ≤ 1000000000000 ∧ (aS sc T n).ws.length ≤ 900000)) :=
        ⟨by rw [(unhide HS).2.1]; omega, by rw [(unhide HS).2.2.1]; omega, .inr ⟨by omega, by omega, by omega, by omega⟩⟩
      have OK := hide ok
      clear xb xo HK HNn ok hst
      obtain ⟨xn, hxn⟩ : ∃ xn, wr.heap.size = xn := ⟨_, rfl⟩
      rw [hxn] at x0 x1 x2 XB
      go_wp2_with fail
      clear hxn
      refine (send_T now 7 0 txThis (unhide T5) hsz5 (unhide OK).1 (unhide OK).2.1 (unhide OK).2.2).mono ?_
      rintro r w5 ⟨rfl, t5, k5⟩
      have T6 := hide t5.symm
      have hsz6 : w2.heap.size ≤ w5.heap.size := Nat.le_trans hsz5 k5.only.size
      have xb := k5.at_ _ _ _ (unhide XB) (by decide) (by decide) (by decide)
      have K6 := hide ((unhide K5).trans k5)
      clear t5 k5 T5 K5 OK x0 x1 x2 XB
      have x0 := xb.cell (i := 0) rfl
      have x1 := xb.cell (i := 1) rfl
      have x2 := xb.cell (i := 2) rfl
      have XB := hide xb
      clear xb
      go_wp2_with fail
      refine (send_T now 7 0 txThis (unhide T6) hsz6 (by simp only [bS]; omega) (by simp only [bS]; omega) (.inr ⟨by omega, by omega, by omega, by simp [bS]⟩)).mono ?_
      rintro r w6 ⟨rfl, t6, k6⟩
      have T7 := hide (show Two w2.heap.size w6 nb { alNow (aS sc T n) now with ws := (alNow (aS sc T n) now).ws } mb { alNow (bS sc n) now with ws := (alNow (bS sc n) now).ws } from t6.symm)
      have hsz7 : w2.heap.size ≤ w6.heap.size := Nat.le_trans hsz6 k6.only.size
      have xb := k6.at_ _ _ _ (unhide XB) (by decide) (by decide) (by decide)
      have K7 := hide ((unhide K6).trans k6)
      clear t6 k6 T6 K6 x0 x1 x2 XB
      have XB := hide xb
      clear xb
      go_wp2_with fail
      go_loopw [6, 13] (fun ov kv wr => ∃ (k : Nat) (W1 W2 : List Pc), ov = .bool false ∧ kv = .int .i64 k ∧ k + W1.length ≤ 248 ∧ AlOk W1 W2 ∧ Two w2.heap.size wr nb { alNow (aS sc T n) now with ws := W1 } mb { alNow (bS sc n) now with ws := W2 } ∧ Kept w2.heap.size w2 wr ∧
        At wr xn 31 [.int .i64 7, .int .i64 0, .string txThis]) (fun _ kv _ => 300 - (intOf kv).toNat)
      case atStart => exact ⟨0, _, _, rfl, rfl, by omega, unhide HST, unhide T7, unhide K7, unhide XB⟩
      case round =>
        obtain ⟨k, W1, W2, rfl, rfl, hkw, hal, htw, hk, hx⟩ := hrel
        have hsz := hk.only.size
        have hk3 : (k : Int) < 300 := by omega
        have HA := hide hal
        have HT := hide htw
        have HK := hide hk
        have HX := hide hx
        have hl1 : W1.length < 1000000 := by omega
        have hl2 : W2.length < 1000000 := by
          have := hal.perm.length_eq
          have := List.length_filter_le (fun q : Pc => decide (q.ds = 0)) W1
          omega
        clear hal htw hk hx T7 K7 XB HST
        go_wp2_with fail
        refine (next_T (unhide HT) hsz hl1).mono ?_
        rintro r w8 hx
        rcases hx with ⟨h0, rfl, t8, k8⟩ | ⟨p, hp1, hp2, rfl, hp3⟩
        · dsimp only at h0
          subst h0
          have h2 : W2 = [] := (unhide HA).perm.symm.eq_nil
          subst h2
          have o8 := (Only.refl (fun _ => False) w8).alloc (.cells #[.int .i64 0, .int .i64 0, .string ⟨#[]⟩] 31)
          have T8 := hide (t8.keep o8)
          have K8 := hide (((unhide HK).trans k8).trans (Kept.of_empty o8))
          clear t8 k8 o8 HT HK HX HA
          go_wp2_with fail
          refine (waits_B 0 (unhide T8).symm.first rfl).mono ?_
          rintro r w' ⟨rfl, rfl⟩
          go_wp2_with fail
          refine (waits_B 0 (unhide T8).first rfl).mono ?_
          rintro r w' ⟨rfl, rfl⟩
          go_wp2_with fail
          go_ret
          exact ⟨rfl, (unhide O2).trans (unhide K8).empty (fun _ _ h => h)⟩
        · obtain ⟨ws', hperm⟩ := perm_of_mem hp1
          obtain ⟨t8, k8⟩ := hp3 ws' hperm
          dsimp only at hperm t8 hp2
          have hlen' : k + 1 + ws'.length ≤ 248 := by have := hperm.length_eq; simp at this; omega
          by_cases hds : p.ds = 0
          · have hp7 := (unhide HA).this p (hperm.mem_iff.2 (List.mem_cons_self ..)) hds
            have hpw := al_this (unhide HA) hperm hds
            have BOTH : Hid (∀ (W2' : List Pc) (p' : Pc), W2.Perm (p' :: W2') → (∀ q ∈ W2, lt q p' = false) → p' = p ∧ AlOk ws' W2') := hide (fun W2' p' a b => al_both (unhide HA) hperm hds hp2 a b)
            have o8 := (Only.refl (fun _ => False) w8).alloc (.cells #[.int .i64 p.fr, .int .i64 p.ds, .string p.tx] 31)
            have T8 := hide (t8.keep o8).symm
            have x8 := (k8.at_ _ _ _ (unhide HX) (by decide) (by decide) (by decide)).only o8 (fun h => h)
            have X8 := hide x8
            have k8' := ((unhide HK).trans k8).trans (Kept.of_empty o8)
            have hsz8 := k8'.only.size
            have K8 := hide k8'
            have mb8 := At.new w8 31 [.int .i64 p.fr, .int .i64 p.ds, .string p.tx]
            have m0 := mb8.cell (i := 0) rfl
            have m1 := mb8.cell (i := 1) rfl
            have m2 := mb8.cell (i := 2) rfl
            have MB := hide mb8
            clear t8 k8 k8' x8 mb8 HT HK HX HA hp1 hp2 hp3 hperm
            obtain ⟨fr, ds, tx, tm, sn⟩ := p
            dsimp only at *
            obtain ⟨rfl, rfl⟩ := hp7
            subst hds
            obtain ⟨mn, hmn⟩ : ∃ mn, w8.heap.size = mn := ⟨_, rfl⟩
            rw [hmn] at m0 m1 m2 MB
            go_wp2_with fail
            refine (next_T (unhide T8) hsz8 hl2).mono ?_
            rintro r w9 hx
            rcases hx with ⟨h0, _⟩ | ⟨p', hq1, hq2, rfl, hq3⟩
            · dsimp only at h0
              rw [h0] at hpw
              cases hpw
            · obtain ⟨ws2, hperm⟩ := perm_of_mem hq1
              obtain ⟨t9, k9⟩ := hq3 ws2 hperm
              dsimp only at hperm t9 hq2
              obtain ⟨rfl, hal'⟩ := unhide BOTH ws2 p' hperm hq2
              have o9 := (Only.refl (fun _ => False) w9).alloc (.cells #[.int .i64 7, .int .i64 0, .string txThis] 31)
              have T9 := hide (t9.keep o9).symm
              have x9 := (k9.at_ _ _ _ (unhide X8) (by decide) (by decide) (by decide)).only o9 (fun h => h)
              have m9 := (k9.at_ _ _ _ (unhide MB) (by decide) (by decide) (by decide)).only o9 (fun h => h)
              have n9 := At.new w9 31 [.int .i64 7, .int .i64 0, .string txThis]
              have X9 := hide x9
              have HA' := hide hal'
              have K9 := hide (((unhide K8).trans k9).trans (Kept.of_empty o9))
              clear m0 m1 m2 hmn hq1 hq2 hq3 BOTH MB X8 T8 K8
              have a0 := x9.cell (i := 0) rfl
              have a1 := x9.cell (i := 1) rfl
              have a2 := x9.cell (i := 2) rfl
              have b0 := m9.cell (i := 0) rfl
              have b1 := m9.cell (i := 1) rfl
              have b2 := m9.cell (i := 2) rfl
              have c0 := n9.cell (i := 0) rfl
              have c1 := n9.cell (i := 1) rfl
              have c2 := n9.cell (i := 2) rfl
              clear x9 m9 n9 t9 k9 o9 hal' hperm
              go_wp2_with fail
              go_roundw
              case rel => exact ⟨k + 1, ws', ws2, rfl, by go_num, hlen', unhide HA', unhide T9, unhide K9, unhide X9⟩
              case measure => simp [intOf]; omega
          · have hal' := al_other (unhide HA) hperm hds
            have o8 := (Only.refl (fun _ => False) w8).alloc (.cells #[.int .i64 p.fr, .int .i64 p.ds, .string p.tx] 31)
            have T8 := hide (t8.keep o8)
            have X8 := hide ((k8.at_ _ _ _ (unhide HX) (by decide) (by decide) (by decide)).only o8 (fun h => h))
            have K8 := hide (((unhide HK).trans k8).trans (Kept.of_empty o8))
            have HA' := hide hal'
            have m1 := (At.new w8 31 [.int .i64 p.fr, .int .i64 p.ds, .string p.tx]).cell (i := 1) rfl
            clear t8 k8 o8 HT HK HX HA hal' hp1 hp2 hp3 hperm
            go_wp2_with fail
            go_roundw
            case rel => exact ⟨k + 1, ws', W2, rfl, by go_num, hlen', unhide HA', unhide T8, unhide K8, unhide X8⟩
            case measure => simp [intOf]; omega

end Go.Proofs.Ytmhkdpmcnaeaiaa
