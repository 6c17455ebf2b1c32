/-
  The walk of NetDrains.
-/
import Derived.Test.YtmhkdpmcnaeaiaaDr
namespace Go.Proofs.Ytmhkdpmcnaeaiaa
open Go.RowKit Go.ChangeShapes Go.WideShapes Go.ChangeAt
set_option linter.unusedVariables false

/-- what the walk of the first loop asks of the script: its element for the next message -/
theorem next_cell {w : World} {sv : Value} {sc : List Tr} (h : Ow w 44 3 sv sc.length (sc.flatMap Tr.cells)) (s : Nst) (hs : s.sc = sc) (hl : 0 < sc.length) :
    ∃ g cap, sv = .slice (some ⟨g, 0, none⟩) sc.length cap ∧ w.cell? ⟨g, (s.sn % sc.length) * 3, none⟩ = some (.bool s.next.lost) ∧ w.cell? ⟨g, (s.sn % sc.length) * 3 + 1, none⟩ = some (.int .i64 s.next.copies) := by
  obtain ⟨g, cap, sp, rfl, h2, _⟩ := h.at_ hl
  subst hs
  obtain ⟨a, b, c⟩ := tr_at h2 (i := s.sn % s.sc.length) (Nat.mod_lt _ hl)
  have e : s.next = s.sc[s.sn % s.sc.length]'(Nat.mod_lt _ hl) := by unfold Nst.next; rw [dif_pos hl]
  rw [e]
  exact ⟨g, cap, rfl, a, b⟩

set_option maxRecDepth 20000 in
set_option maxHeartbeats 8000000 in
theorem drains_any (A U : Option Addr) (c d : Nat) (l : List Tr) (T : List Int) (w : World) (hr : RdT w A l) (hm : l.length ≤ 9223372036854775807) (hd : ∀ t ∈ l, i64ok t.delay)
    (hu : RdU .u16 w U T) (hT : T.length ≤ 9223372036854775807) (hTb : ∀ i, 0 ≤ T.getD i 0 ∧ T.getD i 0 ≤ 65535) :
    Calls Try.prog 4 #[.slice A l.length c, .slice U T.length d] w fun r w' => r = .returned (.bool true) ∧ Only (fun _ => False) w w' := by
  have HR := hide hr
  have HD := hide hd
  have HU := hide hu
  have HB := hide hTb
  clear hr hd hu hTb
  go_enter Try.func4, Try.ntmps4
  go_wp2_with fail
  refine (sanity_any _).mono ?_
  rintro r w1 ⟨rfl, o1⟩
  have R1 := hide ((unhide HR).only o1 (fun _ h => h.elim))
  have U1 := hide ((unhide HU).only o1 (fun _ h => h.elim))
  have O1 := hide o1
  clear o1 HR HU
  go_wp2_with fail
  refine (script_any A c l _ (unhide R1) hm (unhide HD)).mono ?_
  rintro r w2 ⟨sv, rfl, s2, o2, f2⟩
  have o2' := (unhide O1).trans o2 (fun _ _ h => h)
  have U2 := hide ((unhide U1).only o2 (fun _ h => h.elim))
  have hsl := scriptOf_len l
  generalize hsc : scriptOf l = sc at *
  have hnext : ∀ s : Nst, s.sc = sc → s.next.delay < 100000 := fun s hs => next_bd s l (by rw [hs, hsc])
  have HN := hide hnext
  have S2 := hide s2
  have O2 := hide o2'
  clear s2 o2 f2 o2' O1 R1 HD U1 hnext hsc
  go_wp2_with fail
  refine (new_B (B := w2.heap.size) 1 sv sc (Nat.le_refl _) (unhide S2) (by omega)).mono ?_
  rintro r w3 ⟨nb, rfl, n3, o3⟩
  have N3 := hide (show NetB _ _ nb (dS sc T 0) from n3)
  have K3 := hide (Kept.of_empty (B := w2.heap.size) o3)
  clear n3 o3
  have hns : ∀ i, w2.heap.size ≤ i → w2.heap.size ≤ i := fun _ h => h
  go_wp2_with fail
  go_loopw [8, 9] (fun mv kv wr => ∃ j : Nat, kv = .int .i64 j ∧ mv = .int .i64 (dS sc T j).ws.length ∧ j ≤ T.length ∧ j ≤ 40 ∧ NetB w2.heap.size wr nb (dS sc T j) ∧ Kept w2.heap.size w2 wr) (fun _ kv _ => 40 - (intOf kv).toNat)
  case atStart => exact ⟨0, rfl, rfl, Nat.zero_le _, Nat.zero_le _, unhide N3, unhide K3⟩
  case round =>
    obtain ⟨j, rfl, rfl, hj, hj40, hn, hk⟩ := hrel
    have hsz := hk.only.size
    have hsw := (unhide S2).only hk.only (fun k hk' hs => by have := (unhide S2).lt k hk'; omega)
    have SW := hide hsw
    clear hsw
    by_cases hjl : j < T.length ∧ j < 40
    · have HNn := hide hn
      have HK := hide hk
      clear hn hk
      obtain ⟨hj1, hj2⟩ := hjl
      obtain ⟨b, off, rfl, hc⟩ := (unhide U2) (by omega)
      have hcj := hc j hj1
      have hblt := World.block_lt_of_cell? w2 _ hcj
      have q := (unhide HK).only.cell hcj (fun hs => by dsimp only at hs hblt; omega)
      have hb := (unhide HB) j
      have hb1 := hb.1
      have hb2 := hb.2
      have hle := dS_le sc T j
      have hsame := dS_same sc T j
      have HS := hide hsame
      have HX := hide hc
      have hdly := (unhide HN) (dS sc T j) hsame.2.1
      have ok : (dS sc T j).sc.length ≤ 1000000 ∧ (dS sc T j).sn < 1000000 ∧ ((dS sc T j).drops j 0 ∨ (-1000000000000 ≤ T.getD j 0 ∧ T.getD j 0 ≤ 1000000000000 ∧ (dS sc T j).next.delay ≤ 1000000000000 ∧ (dS sc T j).ws.length ≤ 900000)) :=
        ⟨by rw [hsame.2.1]; omega, by rw [hsame.2.2.1]; omega, .inr ⟨by omega, by omega, by omega, by omega⟩⟩
      have OK := hide ok
      have hlen := dS_len sc T j
      have hNle := dN_le sc T j
      have HL := hide hlen
      have DS := hide (show (dS sc T j).send (T.getD j 0) j 0 ⟨#[]⟩ = dS sc T (j + 1) from rfl)
      clear hcj hblt hsame hc ok hb hdly hlen
      have hdN : (dN sc T j : Int) = if (dS sc T j).next.lost = true then 0 else min (max (dS sc T j).next.copies 1) 8 := by
        unfold dN
        split
        · rfl
        · exact many_int _
      have HDN := hide hdN
      clear hdN
      generalize htx : T.getD j 0 = t at *
      clear htx
      go_wp2_with fail
      refine (send_B t j 0 ⟨#[]⟩ (unhide HNn) hsz (unhide OK).1 (unhide OK).2.1 (unhide OK).2.2).mono ?_
      rintro r w4 ⟨rfl, n4, k4⟩
      rw [unhide DS] at n4
      have k4' := (unhide HK).trans k4
      have s4 := (unhide S2).only k4'.only (fun k hk' hs => by have := (unhide S2).lt k hk'; omega)
      have hlen4 := unhide HL
      have hle4 := dS_le sc T j
      have N4 := hide n4
      have K4 := hide k4'
      clear n4 k4 k4' HK HNn q
      have DN1 := unhide HDN
      have hjlt : (j : Int) < 40 := by omega
      have hfin : ∀ (x : Int), x = dN sc T j → ((dS sc T j).ws.length : Int) + x = ((dS sc T (j + 1)).ws.length : Nat) := fun x hx => by rw [hx, hlen4]; omega
      have FIN := hide hfin
      clear hfin
      by_cases hs0 : 0 < sc.length
      · obtain ⟨g, cap, rfl, q0, q1⟩ := next_cell s4 (dS sc T j) (unhide HS).2.1 hs0
        rw [(unhide HS).2.2.1] at q0 q1
        have hmod : j % sc.length < sc.length := Nat.mod_lt _ hs0
        have hrem : Int.tmod (j : Int) (sc.length : Int) = ((j % sc.length : Nat) : Int) := by rw [Int.tmod_eq_emod_of_nonneg (by omega)]; omega
        clear s4 SW HS DN1
        have S4 := hide hlen4
        have hle5 : (dS sc T j).ws.length ≤ 320 := by omega
        have hdb := dN_le sc T j
        clear hlen4 hle4
        cases hlo : (dS sc T j).next.lost
        · rw [hlo] at q0
          go_wp2_with fail
          refine ⟨⟨j + 1, by go_num, ?_, hj1, hj2, unhide N4, unhide K4⟩, by simp [intOf]; omega⟩
          rw [unhide FIN _ (by rw [unhide HDN, hlo, if_neg (by decide)])]
        · rw [hlo] at q0
          go_wp2_with fail
          refine ⟨⟨j + 1, by go_num, ?_, hj1, hj2, unhide N4, unhide K4⟩, by simp [intOf]; omega⟩
          have := unhide FIN 0 (by rw [unhide HDN, hlo, if_pos rfl])
          rw [← this, Int.add_zero]
      · obtain ⟨A1, c1, rfl⟩ := s4.shape
        have hnx : (dS sc T j).next = ⟨false, 1, 1⟩ := by unfold Nst.next; rw [dif_neg (by rw [(unhide HS).2.1]; exact hs0)]
        rw [hnx] at DN1
        have e1 := unhide FIN 1 (by rw [DN1]; rfl)
        have E1 := hide e1
        have hle5 : (dS sc T j).ws.length ≤ 320 := by omega
        have hsn : ¬ (0 : Int) < sc.length := by omega
        clear s4 SW HS DN1 hnx e1 hlen4 hle4 hs0 hsl HDN FIN
        go_wp2_with fail
        refine ⟨⟨j + 1, by go_num, by rw [unhide E1], hj1, hj2, unhide N4, unhide K4⟩, by simp [intOf]; omega⟩
    · have hok := dS_ok sc T j
      have hsz2 := hk.only.size
      have hle := dS_le sc T j
      have start : (∀ q ∈ (dS sc T j).ws, Behind (-1) (-1) q) := fun q hq => by
        have := hok q hq
        have := (unhide HB q.fr.toNat).1
        unfold DrOk at *
        exact .inl (by omega)
      have OK0 := hide hok
      have ST0 := hide start
      generalize hxx : dS sc T j = sj at *
      have SJ := hide hxx
      have N5 := hide hn
      have K5 := hide hk
      clear hxx hn hk hok start
      have hcase : (j < T.length ∧ ¬ (j : Int) < 40) ∨ ¬ j < T.length := by omega
      rcases hcase with ⟨h1, h2⟩ | h1
      all_goals
        go_wp2_with fail
        refine (waits_B _ (unhide N5) rfl).mono ?_
        rintro r w' ⟨rfl, rfl⟩
        go_wp2_with fail
        obtain ⟨wo, hwo⟩ : ∃ wo : World, wo = wr := ⟨_, rfl⟩
        subst hwo
        go_loopw [4, 11, 12, 13] (fun ov lv fv kv wr => ∃ (k : Nat) (last first : Int) (W : List Pc), ov = .bool false ∧ lv = .int .i64 last ∧ fv = .int .i64 first ∧ kv = .int .i64 k ∧ k + W.length = sj.ws.length ∧ (∀ q ∈ W, DrOk T j q) ∧ (∀ q ∈ W, Behind last first q) ∧
          NetB w2.heap.size wr nb { sj with ws := W } ∧ Kept w2.heap.size w2 wr) (fun _ _ _ kv _ => sj.ws.length - (intOf kv).toNat)
        case atStart => exact ⟨0, -1, -1, sj.ws, rfl, rfl, rfl, rfl, by omega, unhide OK0, unhide ST0, unhide N5, unhide K5⟩
        case round =>
          obtain ⟨k, last, first, W, rfl, rfl, rfl, rfl, hkw, hok, hbe, hn, hk⟩ := hrel
          have hsz3 := hk.only.size
          have HOK := hide hok
          have HBE := hide hbe
          have HNn := hide hn
          have HK := hide hk
          clear hok hbe hn hk OK0 ST0 N5 K5
          by_cases hkl : k < sj.ws.length
          · have hWl : W.length < 1000000 := by omega
            go_wp2_with fail
            refine (next_B (unhide HNn) hsz3 hWl).mono ?_
            rintro r w5 hx
            rcases hx with ⟨h0, _⟩ | ⟨p, hp1, hp2, rfl, hp3⟩
            · dsimp only at h0
              rw [h0] at hkw
              simp at hkw
              omega
            · obtain ⟨ws', hperm⟩ := perm_of_mem hp1
              obtain ⟨n5, k5⟩ := hp3 ws' hperm
              have hbn := behind_next hp2 hperm
              dsimp only at hperm n5 hbn
              have hokp := unhide HOK p (hperm.mem_iff.2 (List.mem_cons_self ..))
              have hbep := unhide HBE p (hperm.mem_iff.2 (List.mem_cons_self ..))
              have hok' : ∀ q ∈ ws', DrOk T j q := fun q hq => unhide HOK q (hperm.mem_iff.2 (List.mem_cons_of_mem _ hq))
              have hl' : k + 1 + ws'.length = sj.ws.length := by have := hperm.length_eq; simp at this; omega
              have k5' := (unhide HK).trans k5
              obtain ⟨fr, ds, tx, tm, sn⟩ := p
              unfold DrOk at hokp
              unfold Behind at hbep
              dsimp only at hokp hbep hbn
              obtain ⟨p1, p2, p3, p4⟩ := hokp
              obtain ⟨i, rfl⟩ := Int.eq_ofNat_of_zero_le p1
              subst p3
              rw [Int.toNat_natCast] at p4
              have hij : i < T.length := by omega
              obtain ⟨b, off, rfl, hc⟩ := (unhide U2) (by omega)
              have hci := hc i hij
              have hblt := World.block_lt_of_cell? w2 _ hci
              have q := k5'.only.cell hci (fun hs => by dsimp only at hs hblt; omega)
              have hb := (unhide HB) i
              have hb1 := hb.1
              have hb2 := hb.2
              generalize htx : T.getD i 0 = t at *
              clear htx
              have Q1 := hide hbn
              have Q2 := hide hok'
              have N6 := hide n5
              have K6 := hide k5'
              clear hp1 hp2 hp3 hperm hbn hok' n5 k5 k5' hc hci hb HOK HBE HNn HK
              have e1 : ¬ tm < last := by omega
              have e3 : ¬ (i : Int) < 0 := by omega
              have e4 : ¬ (T.length : Int) ≤ i := by omega
              have e5 : ¬ tm < t := by omega
              have hnew := At.new w5 31 [.int .i64 i, .int .i64 ds, .string tx]
              have o6 := (Only.refl (fun _ => False) w5).alloc (.cells #[.int .i64 i, .int .i64 ds, .string tx] 31)
              have q6 := o6.cell q (fun h => h)
              have m0 := hnew.cell (i := 0) rfl
              have NW := hide hnew
              have O6 := hide o6
              clear hnew o6 q
              by_cases e2 : last = tm
              · subst e2
                have e6 : ¬ (i : Int) < first := by omega
                clear hbep
                go_wp2_with fail
                go_quiet (fail)
                go_wp2_with fail
                go_roundw
                case rel => exact ⟨k + 1, last, i, ws', rfl, rfl, rfl, by go_num, hl', unhide Q2, unhide Q1, ((unhide N6).keep (unhide O6)).keep ((Only.refl (fun _ => False) _).drewN _), ((unhide K6).trans (Kept.of_empty (unhide O6))).trans (Kept.of_empty ((Only.refl (fun _ => False) _).drewN _))⟩
                case measure => simp [intOf]; omega
              · clear hbep
                go_wp2_with fail
                go_quiet (fail)
                go_wp2_with fail
                go_roundw
                case rel => exact ⟨k + 1, tm, i, ws', rfl, rfl, rfl, by go_num, hl', unhide Q2, unhide Q1, ((unhide N6).keep (unhide O6)).keep ((Only.refl (fun _ => False) _).drewN _), ((unhide K6).trans (Kept.of_empty (unhide O6))).trans (Kept.of_empty ((Only.refl (fun _ => False) _).drewN _))⟩
                case measure => simp [intOf]; omega
          · have hW : W = [] := List.length_eq_zero_iff.1 (by omega)
            subst hW
            clear HOK HBE
            go_wp2_with fail
            refine (next_empty (unhide HNn) hsz3 rfl).mono ?_
            rintro r w5 ⟨rfl, n5, k5⟩
            have N6 := hide (n5.keep ((Only.refl (fun _ => False) w5).alloc (.cells #[.int .i64 0, .int .i64 0, .string ⟨#[]⟩] 31)))
            have K6 := hide (((unhide HK).trans k5).trans (Kept.of_empty ((Only.refl (fun _ => False) w5).alloc (.cells #[.int .i64 0, .int .i64 0, .string ⟨#[]⟩] 31))))
            clear n5 k5 HNn HK
            go_wp2_with fail
            refine (waits_B 0 (unhide N6) rfl).mono ?_
            rintro r w' ⟨rfl, rfl⟩
            go_wp2_with fail
            go_ret
            exact ⟨rfl, (unhide O2).trans (unhide K6).empty (fun _ _ h => h)⟩

end Go.Proofs.Ytmhkdpmcnaeaiaa
