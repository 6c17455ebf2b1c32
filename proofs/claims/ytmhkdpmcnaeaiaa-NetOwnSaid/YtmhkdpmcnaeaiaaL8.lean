/-
  The walk of NetOwn.
-/
import Derived.Test.YtmhkdpmcnaeaiaaOn
namespace Go.Proofs.Ytmhkdpmcnaeaiaa
open Go.RowKit
set_option linter.unusedVariables false

set_option maxRecDepth 20000 in
set_option maxHeartbeats 8000000 in
theorem own_any (A : Option Addr) (c : Nat) (l : List Tr) (many : Int) (w : World) (hr : RdT w A l) (hm : l.length ≤ 9223372036854775807) (hd : ∀ t ∈ l, i64ok t.delay) (hn0 : 0 ≤ many) (hn1 : many ≤ 255) :
    Calls Try.prog 8 #[.slice A l.length c, .int .u8 many] w fun r w' => r = .returned (.bool true) ∧ Only (fun _ => False) w w' := by
  obtain ⟨i0, hi0, hz0, hz1, hz2⟩ := info_parts Try.info44
  have HR := hide hr
  have HD := hide hd
  clear hr hd
  go_enter Try.func8, Try.ntmps8
  go_wp2_with fail
  refine (sanity_any _).mono ?_
  rintro r w1 ⟨rfl, o1⟩
  have R1 := hide ((unhide HR).only o1 (fun _ h => h.elim))
  have O1 := hide o1
  clear o1 HR
  go_wp2_with fail
  refine (script_any A c l _ (unhide R1) hm (unhide HD)).mono ?_
  rintro r w2 ⟨sv, rfl, s2, o2, f2⟩
  have hs1 := (unhide O1).size
  have o2' := (unhide O1).trans o2 (fun _ _ h => h)
  have f2' : ∀ k, sv.ownBlock = some k → w.heap.size ≤ k := fun k hk => Nat.le_trans hs1 (f2 k hk)
  have hsl := scriptOf_len l
  generalize hsc : scriptOf l = sc at *
  have hnext : ∀ s : Nst, s.sc = sc → s.next.delay < 100000 := fun s hs => next_bd s l (by rw [hs, hsc])
  have HN := hide hnext
  have S2 := hide s2
  have O2 := hide o2'
  have F2 := hide f2'
  clear s2 o2 f2 o2' f2' O1 R1 HD hnext hsc
  go_wp2_with fail
  refine (new_B (B := w2.heap.size) 1 sv sc (Nat.le_refl _) (unhide S2) (by omega)).mono ?_
  rintro r w3 ⟨nb, rfl, n3, o3⟩
  have N3 := hide n3
  have o3' := o3.alloc (.cells #[] 44)
  have s3 := (unhide S2).only o3' (fun _ _ h => h)
  have e3 : Ow (w3.alloc (.cells #[] 44)) 44 3 (.slice (some ⟨w3.heap.size, 0, none⟩) 0 0) 0 [] := Ow.mk (sp := []) (At.new w3 44 []) rfl (Nat.le_refl _) (by simp [maxLen]) rfl
  have S3 := hide s3
  have E3 := hide e3
  have O3 := hide o3
  have O3' := hide o3
  have hs3 : w2.heap.size ≤ w3.heap.size := o3.size
  have hml : 0 + sc.length ≤ maxLen := by unfold maxLen; omega
  have hby : (0 + sc.length) * 24 ≤ 140737488355328 := by omega
  have ML := hide hml
  have BY := hide hby
  clear n3 o3 o3' s3 e3 hml hby
  go_wp2_with (at_builtin; refine wpl_app_ow rfl (.tmp 23) (.tmp 24) 22 rfl 44 i0 _ 3 24 Try.underlying22 hi0 hz0 hz1 hz2 rfl (by decide) (.slice (some ⟨w3.heap.size, 0, none⟩) 0 0) 0 [] rfl (unhide E3) sv sc.length (sc.flatMap Tr.cells) rfl (unhide S3) (cells_one sc) (unhide ML) (unhide BY) ?_; intro v1 w4 h)
  intro g1 b1
  rw [Nat.zero_add, List.nil_append] at h
  have g4 : Only (fun _ => False) w3 w4 := ((Only.refl (fun _ => False) w3).alloc _).grown g1 (fun k hk hlt => by simp [Value.ownBlock] at hk; omega)
  have N4 := hide ((unhide N3).keep g4)
  have s4 := (((unhide S2).only (unhide O3') (fun _ _ h => h))).only g4 (fun _ _ h => h)
  have o4 := ((unhide O2).trans (unhide O3') (fun _ _ h => h)).trans g4 (fun _ _ h => h)
  have hs4 : w2.heap.size ≤ w4.heap.size := Nat.le_trans hs3 g4.size
  have S4 := hide s4
  have O4 := hide o4
  have E4 := hide h
  clear g4 s4 o4 h g1 b1 E3 S3 ML BY N3 O3 O3'
  go_wp2_with fail
  refine (new_B (B := w4.heap.size) 1 v1 sc (Nat.le_refl _) (unhide E4) (by omega)).mono ?_
  rintro r w5 ⟨mb, rfl, n5, o5⟩
  have T5 := hide (show Two w2.heap.size w5 nb (oS sc 0) mb (oS sc 0) from Two.mk (unhide N4) o5 n5 hs4)
  have O5 := hide (((unhide O4).trans o5 (fun _ _ h => h)).mono (T := fun i => w.heap.size ≤ i) (fun _ _ h => h.elim))
  have S5 := hide ((unhide S4).only o5 (fun _ _ h => h))
  clear n5 o5 N4 O4 E4 S4
  have BL : Hid (0 < sc.length → ∃ g cap, sv = .slice (some ⟨g, 0, none⟩) sc.length cap ∧ w.heap.size ≤ g ∧ g < w2.heap.size ∧ Bl w5 g sc.length) := hide fun hl => by
    obtain ⟨g, cap, sp, rfl, h2, _⟩ := (unhide S5).at_ hl
    refine ⟨g, cap, rfl, unhide F2 g rfl, (unhide S2).lt g rfl, ⟨_, h2, by rw [List.length_append, cells_len]; omega, fun i hi => ⟨(sc[i]).lost, ?_⟩⟩⟩
    rw [List.getElem?_append_left (by rw [cells_len]; omega)]
    have := flat_get Tr.cells 3 (fun _ => rfl) [] sc i 0 hi (by decide)
    simpa [Tr.cells] using this
  obtain ⟨A1, c1, rfl⟩ := (unhide S2).shape
  go_wp2_with fail
  go_loopw [9] (fun kv wr => ∃ j : Nat, kv = .int .i64 j ∧ j ≤ sc.length ∧ (0 < sc.length → ∃ g, A1 = some ⟨g, 0, none⟩ ∧ w.heap.size ≤ g ∧ g < w2.heap.size ∧ Bl wr g sc.length) ∧ Two w2.heap.size wr nb (oS sc 0) mb (oS sc 0) ∧ Only (fun i => w.heap.size ≤ i) w wr) (fun kv _ => 30 - (intOf kv).toNat)
  case atStart =>
    refine ⟨0, rfl, Nat.zero_le _, fun hl => ?_, unhide T5, unhide O5⟩
    obtain ⟨g, cap, h1, h2, h3, h4⟩ := unhide BL hl
    injection h1 with h1
    exact ⟨g, h1, h2, h3, h4⟩
  case round =>
    obtain ⟨j, rfl, hj, hbl, ht, ho⟩ := hrel
    have HT := hide ht
    have HO := hide ho
    have HBL := hide hbl
    clear ht ho hbl BL T5 O5 S5
    by_cases hjl : j < sc.length
    · obtain ⟨g, rfl, hg1, hg2, hb⟩ := unhide HBL (by omega)
      obtain ⟨cs, ha, hl3, hbo⟩ := hb.ex
      obtain ⟨b, hbj⟩ := hbo j hjl
      have d0 := ha.cell hbj
      have hj31 : j * 3 + 1 < cs.length := by omega
      have hj32 : j * 3 + 2 < cs.length := by omega
      have d1 := ha.cell (i := j * 3 + 1) (List.getElem?_eq_getElem hj31)
      have d2 := ha.cell (i := j * 3 + 2) (List.getElem?_eq_getElem hj32)
      have f0 := ha.frozen (j * 3)
      have f1 := ha.frozen (j * 3 + 1)
      have f2 := ha.frozen (j * 3 + 2)
      generalize cs[j * 3 + 1] = y1 at d1
      generalize cs[j * 3 + 2] = y2 at d2
      have hlt := ha.lt
      have HBL' := hide hb
      clear ha hb hbo HBL
      have O9 := hide (only_put3 wr g (j * 3) (j * 3 + 1) (j * 3 + 2) (.bool !b) (.int .i64 0) (.int .i64 3))
      have B9 := hide ((unhide HBL').put (!b) (.int .i64 0) (.int .i64 3) hjl)
      go_wp2_with fail
      go_roundw
      case rel => exact ⟨j + 1, by go_num, hjl, fun _ => ⟨g, rfl, hg1, hg2, unhide B9⟩, (unhide HT).only (unhide O9) (fun i hi => by rw [hi]; exact hg2), (unhide HO).trans ((unhide O9).mono (T := fun i => w.heap.size ≤ i) (fun i _ hi => by rw [hi]; exact hg1)) (fun _ _ h => h)⟩
      case measure => simp [intOf]; omega
    · clear hj HBL
      obtain ⟨n, hn⟩ : ∃ n : Nat, many % 30 = n := ⟨(many % 30).toNat, by omega⟩
      have hn30 : n < 30 := by omega
      have HB := hide hn
      have T6 := HT
      have O6 := HO
      clear HT HO
      go_wp2_with fail
      obtain ⟨wo, hwo⟩ : ∃ wo : World, wo = wr := ⟨_, rfl⟩
      subst hwo
      go_loopw [10] (fun kv wr => ∃ j : Nat, kv = .int .i64 j ∧ j ≤ n ∧ Two w2.heap.size wr nb (oS sc j) mb (oS sc j) ∧ Only (fun i => w.heap.size ≤ i) w wr) (fun kv _ => 30 - (intOf kv).toNat)
      case atStart => exact ⟨0, rfl, Nat.zero_le _, unhide T6, unhide O6⟩
      case round =>
        obtain ⟨k, rfl, hk, ht, ho⟩ := hrel
        have hsz := Nat.le_trans (show w2.heap.size ≤ w2.heap.size from Nat.le_refl _) (two_size ht)
        have hsame := oS_same sc k
        have hle := oS_le sc k
        have hdly := (unhide HN) (oS sc k) hsame.2.1
        have HS := hide hsame
        have HT := hide ht
        have HO := hide ho
        clear ht ho hsame T6 O6
        have ok : (oS sc k).sc.length ≤ 1000000 ∧ (oS sc k).sn < 1000000 ∧ ((oS sc k).drops k 0 ∨ (-1000000000000 ≤ (k : Int) ∧ (k : Int) ≤ 1000000000000 ∧ (oS sc k).next.delay ≤ 1000000000000 ∧ (oS sc k).ws.length ≤ 900000)) :=
          ⟨by rw [(unhide HS).2.1]; omega, by rw [(unhide HS).2.2.1]; omega, .inr ⟨by omega, by omega, by omega, by omega⟩⟩
        have OK := hide ok
        clear ok
        by_cases hkn : k < n
        · have hkn' : (k : Int) < n := by omega
          have hw2 : w.heap.size ≤ w2.heap.size := (unhide O2).size
          go_wp2_with fail
          refine (send_T k k 0 ⟨#[]⟩ (unhide HT) hsz (unhide OK).1 (unhide OK).2.1 (unhide OK).2.2).mono ?_
          rintro r w6 ⟨rfl, t6, k6⟩
          have T7 := hide t6.symm
          have hsz6 : w2.heap.size ≤ w6.heap.size := Nat.le_trans hsz k6.only.size
          have O7 := hide ((unhide HO).trans k6.only (fun i _ hi => Nat.le_trans hw2 hi))
          clear t6 k6 HT HO
          go_wp2_with fail
          refine (send_T k k 0 ⟨#[]⟩ (unhide T7) hsz6 (unhide OK).1 (unhide OK).2.1 (unhide OK).2.2).mono ?_
          rintro r w7 ⟨rfl, t7, k7⟩
          have T8 := hide (show Two w2.heap.size w7 nb (oS sc (k + 1)) mb (oS sc (k + 1)) from t7.symm)
          have O8 := hide ((unhide O7).trans k7.only (fun i _ hi => Nat.le_trans hw2 hi))
          clear t7 k7 T7 O7
          go_wp2_with fail
          go_roundw
          case rel => exact ⟨k + 1, by go_num, hkn, unhide T8, unhide O8⟩
          case measure => simp [intOf]; omega
        · obtain rfl : n = k := by omega
          have T7 := hide (show Two w2.heap.size wr nb { oS sc n with ws := (oS sc n).ws } mb { oS sc n with ws := (oS sc n).ws } from unhide HT)
          have O7 := HO
          have OW := hide (oS_ok sc n)
          clear HT HO OK
          go_wp2_with fail
          obtain ⟨wp, hwp⟩ : ∃ wp : World, wp = wr := ⟨_, rfl⟩
          subst hwp
          go_loopw [4, 11] (fun ov kv wr => ∃ (k : Nat) (W : List Pc), ov = .bool false ∧ kv = .int .i64 k ∧ k ≤ 300 ∧ W.length < 1000000 ∧ OwOk W ∧ Two w2.heap.size wr nb { oS sc n with ws := W } mb { oS sc n with ws := W } ∧ Only (fun i => w.heap.size ≤ i) w wr) (fun _ kv _ => 300 - (intOf kv).toNat)
          case atStart => exact ⟨0, _, rfl, rfl, by decide, by omega, unhide OW, unhide T7, unhide O7⟩
          case round =>
            obtain ⟨k, W, rfl, rfl, hk, hwl, how, ht, ho⟩ := hrel
            have hsz := two_size ht
            have HT := hide ht
            have HO := hide ho
            have HW := hide how
            clear ht ho how T7 O7 OW
            have hw2 : w.heap.size ≤ w2.heap.size := (unhide O2).size
            by_cases hk3 : k < 300
            · have hk3' : (k : Int) < 300 := by omega
              go_wp2_with fail
              refine (next_T (unhide HT) hsz hwl).mono ?_
              rintro r w8 hx
              rcases hx with ⟨h0, rfl, t8, k8⟩ | ⟨p, hp1, hp2, rfl, hp3⟩
              · dsimp only at h0
                subst h0
                have o8 := (Only.refl (fun _ => False) w8).alloc (.cells #[.int .i64 0, .int .i64 0, .string ⟨#[]⟩] 31)
                have T8 := hide (t8.keep o8).symm
                have hsz8 := two_size (unhide T8)
                have m8 := At.new w8 31 [.int .i64 0, .int .i64 0, .string ⟨#[]⟩]
                have M8 := hide m8
                have m0 := m8.cell (i := 0) rfl
                have O8 := hide ((unhide HO).trans ((k8.trans (Kept.of_empty o8)).only) (fun i _ hi => Nat.le_trans hw2 hi))
                obtain ⟨mn, hmn⟩ : ∃ mn, w8.heap.size = mn := ⟨_, rfl⟩
                rw [hmn] at m0 M8
                clear t8 k8 o8 m8 HT HO
                go_wp2_with fail
                refine (nextT_empty (unhide T8) hsz8 rfl).mono ?_
                rintro r w9 ⟨rfl, t9, k9⟩
                have o9 := (Only.refl (fun _ => False) w9).alloc (.cells #[.int .i64 0, .int .i64 0, .string ⟨#[]⟩] 31)
                have T9 := hide (t9.keep o9).symm
                have n9 := (k9.at_ _ _ _ (unhide M8) (by decide) (by decide) (by decide)).only o9 (fun h => h)
                have m9 := At.new w9 31 [.int .i64 0, .int .i64 0, .string ⟨#[]⟩]
                have O9 := hide ((unhide O8).trans ((k9.trans (Kept.of_empty o9)).only) (fun i _ hi => Nat.le_trans hw2 hi))
                clear m0 hmn
                have a0 := n9.cell (i := 0) rfl
                have a1 := n9.cell (i := 1) rfl
                have a2 := n9.cell (i := 2) rfl
                have b0 := m9.cell (i := 0) rfl
                have b1 := m9.cell (i := 1) rfl
                have b2 := m9.cell (i := 2) rfl
                clear t9 k9 o9 n9 m9 O8 T8 M8
                go_wp2_with fail
                go_roundw
                case rel => exact ⟨k + 1, [], rfl, by go_num, hk3, by decide, unhide HW, unhide T9, unhide O9⟩
                case measure => simp [intOf]; omega
              · obtain ⟨ws', hperm⟩ := perm_of_mem hp1
                obtain ⟨t8, k8⟩ := hp3 ws' hperm
                dsimp only at hp1 hperm t8 hp2
                have hwl' : ws'.length < 1000000 := by have := hperm.length_eq; simp at this; omega
                have how' : OwOk ws' := fun q hq => unhide HW q (hperm.mem_iff.2 (List.mem_cons_of_mem _ hq))
                have SAME : Hid (∀ p' ∈ W, (∀ q ∈ W, lt q p' = false) → p' = p) := hide fun p' a b => ow_eq (unhide HW) hp1 a hp2 b
                have PERM := hide hperm
                have o8 := (Only.refl (fun _ => False) w8).alloc (.cells #[.int .i64 p.fr, .int .i64 p.ds, .string p.tx] 31)
                have T8 := hide (t8.keep o8).symm
                have hsz8 := two_size (unhide T8)
                have m8 := At.new w8 31 [.int .i64 p.fr, .int .i64 p.ds, .string p.tx]
                have M8 := hide m8
                have m0 := m8.cell (i := 0) rfl
                have O8 := hide ((unhide HO).trans ((k8.trans (Kept.of_empty o8)).only) (fun i _ hi => Nat.le_trans hw2 hi))
                have HW' := hide how'
                obtain ⟨mn, hmn⟩ : ∃ mn, w8.heap.size = mn := ⟨_, rfl⟩
                rw [hmn] at m0 M8
                clear t8 k8 o8 m8 HT HO hp1 hp2 hp3 hperm how' HW
                go_wp2_with fail
                refine (next_T (unhide T8) hsz8 hwl).mono ?_
                rintro r w9 hx
                rcases hx with ⟨h0, _⟩ | ⟨p', hq1, hq2, rfl, hq3⟩
                · dsimp only at h0
                  have := (unhide PERM).length_eq
                  rw [h0] at this
                  simp at this
                · dsimp only at hq1 hq2
                  obtain rfl := unhide SAME p' hq1 hq2
                  obtain ⟨t9, k9⟩ := hq3 ws' (unhide PERM)
                  have o9 := (Only.refl (fun _ => False) w9).alloc (.cells #[.int .i64 p'.fr, .int .i64 p'.ds, .string p'.tx] 31)
                  have T9 := hide (t9.keep o9).symm
                  have n9 := (k9.at_ _ _ _ (unhide M8) (by decide) (by decide) (by decide)).only o9 (fun h => h)
                  have m9 := At.new w9 31 [.int .i64 p'.fr, .int .i64 p'.ds, .string p'.tx]
                  have O9 := hide ((unhide O8).trans ((k9.trans (Kept.of_empty o9)).only) (fun i _ hi => Nat.le_trans hw2 hi))
                  clear m0 hmn
                  have a0 := n9.cell (i := 0) rfl
                  have a1 := n9.cell (i := 1) rfl
                  have a2 := n9.cell (i := 2) rfl
                  have b0 := m9.cell (i := 0) rfl
                  have b1 := m9.cell (i := 1) rfl
                  have b2 := m9.cell (i := 2) rfl
                  clear t9 k9 o9 n9 m9 O8 T8 M8 hq1 hq2 hq3 SAME PERM
                  go_wp2_with fail
                  go_roundw
                  case rel => exact ⟨k + 1, ws', rfl, by go_num, hk3, hwl', unhide HW', unhide T9, unhide O9⟩
                  case measure => simp [intOf]; omega
            · have hk3' : ¬ (k : Int) < 300 := by omega
              go_wp2_with fail
              go_ret
              exact ⟨rfl, (unhide HO).mono (fun i hi h => by omega)⟩

end Go.Proofs.Ytmhkdpmcnaeaiaa
