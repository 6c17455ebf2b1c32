/-
  The walk of NetParts.
-/
import Derived.Test.YtmhkdpmcnaeaiaaPr
namespace Go.Proofs.Ytmhkdpmcnaeaiaa
open Go.RowKit
set_option linter.unusedVariables false

theorem Try.info3 : (Try.prog.info? 3).map (fun i => (i.zero, i.size, i.bytes)) = some (some (.int .i64 0), 1, 8) := by kernel_rfl

set_option maxRecDepth 20000 in
set_option maxHeartbeats 8000000 in
theorem parts_any (A U : Option Addr) (c d : Nat) (T : List Int) (L : List (Int × Int)) (w : World) (hr : RdU .i8 w A T) (hm : T.length ≤ 9223372036854775807) (hT : ∀ i, -128 ≤ T.getD i 0 ∧ T.getD i 0 ≤ 127)
    (hu : RdP w U L) (hL : L.length ≤ 9223372036854775807) (hLb : ∀ i, 0 ≤ (L.getD i (0, 0)).1 ∧ (L.getD i (0, 0)).1 ≤ 255 ∧ 0 ≤ (L.getD i (0, 0)).2 ∧ (L.getD i (0, 0)).2 ≤ 255) :
    Calls Try.prog 10 #[.slice A T.length c, .slice U L.length d] w fun r w' => r = .returned (.bool true) ∧ Only (fun _ => False) w w' := by
  obtain ⟨i0, hi0, hz0, hz1, hz2⟩ := info_parts Try.info3
  have HR := hide hr
  have HT := hide hT
  have HU := hide hu
  have HL := hide hLb
  clear hr hT hu hLb
  go_enter Try.func10, Try.ntmps10
  go_wp2_with fail
  refine (sanity_any _).mono ?_
  rintro r w1 ⟨rfl, o1⟩
  have R1 := hide ((unhide HR).only o1 (fun _ h => h.elim))
  have U1 := hide ((unhide HU).only o1 (fun _ h => h.elim))
  have O1 := hide o1
  have hw1 := o1.size
  clear o1 HR HU
  go_wp2_with fail
  go_loopw [6, 7] (fun gv kv wr => ∃ j : Nat, kv = .int .i64 j ∧ j ≤ T.length ∧ j ≤ 8 ∧ Ow wr 3 1 gv j (ints ((T.take j).map (fun x => x.tmod 3))) ∧ (∀ k, gv.ownBlock = some k → w1.heap.size ≤ k) ∧ Only (fun _ => False) w1 wr) (fun _ kv _ => 8 - (intOf kv).toNat)
  case atStart => exact ⟨0, rfl, Nat.zero_le _, Nat.zero_le _, Ow.nil _ _ _, fun k hk => by simp [Value.ownBlock] at hk, Only.refl _ _⟩
  case round =>
    obtain ⟨j, rfl, hj, hj8, ho, hb, hk⟩ := hrel
    have HO := hide ho
    have HB := hide hb
    have HK := hide hk
    clear ho hb hk
    by_cases hjl : j < T.length ∧ j < 8
    · obtain ⟨hj1, hj2⟩ := hjl
      obtain ⟨b, off, rfl, hc⟩ := (unhide R1) (by omega)
      have q0 := hc j hj1
      have d0 := (unhide HK).cell q0 (fun h => h)
      have hbd := (unhide HT) j
      have hb1 := hbd.1
      have hb2 := hbd.2
      have e : ints ((T.take (j + 1)).map (fun x => x.tmod 3)) = ints ((T.take j).map (fun x => x.tmod 3)) ++ [.int .i64 ((T.getD j 0).tmod 3)] := by
        rw [List.take_succ_eq_append_getElem hj1, List.map_append]
        unfold ints
        rw [List.map_append]
        simp [List.getD_eq_getElem?_getD, hj1]
      have E := hide e
      clear q0 hc hbd e
      generalize T.getD j 0 = t at *
      have hm3 := Int.tmod_lt_of_pos t (b := 3) (by decide)
      have hm4 := Int.tmod_lt_of_pos (-t) (b := 3) (by decide)
      rw [Int.neg_tmod] at hm4
      obtain ⟨m, htm⟩ : ∃ m, t.tmod 3 = m := ⟨_, rfl⟩
      rw [htm] at hm3 hm4 E
      obtain ⟨A1, c1, rfl⟩ := (unhide HO).shape
      have O2 := (Only.refl (fun _ => False) wr).alloc (.cells #[.int .i64 m] 3)
      have hnew := (At.new wr 3 [.int .i64 m]).news'
      have ho2 := (unhide HO).only O2 (fun _ _ h => h)
      have H1 := hide O2
      have H2 := hide hnew
      have H4 := hide ho2
      have h1c : ∀ u ∈ ([.int .i64 m] : List Value), u.oneCell' = true := by
        intro u hu
        simp only [List.mem_singleton] at hu
        subst hu
        rfl
      have H3 := hide h1c
      clear O2 hnew ho2 h1c
      go_wp2_with (at_builtin; refine wpl_app rfl (.tmp 30) (.tmp 37) 32 rfl 3 i0 _ 1 8 Try.underlying32 hi0 hz0 hz1 hz2 rfl (by decide) (.slice A1 j c1) j _ rfl (unhide H4) ⟨wr.heap.size, 0, none⟩ 1 1 _ rfl rfl (unhide H2) (unhide H3) (by unfold maxLen; omega) (by omega) ?_; intro v1 w3 h g1 b1 _)
      rw [← unhide E] at h
      have R1' : (∀ k, v1.ownBlock = some k → w1.heap.size ≤ k) ∧ Only (fun _ => False) w1 w3 := by
        have hs := (unhide HK).size
        refine ⟨fun k hk' => ?_, ((unhide HK).alloc _).grown g1 (fun k hk' hlt => by have := unhide HB k hk'; omega)⟩
        rcases b1 with e | e <;> rw [e] at hk'
        · exact unhide HB k hk'
        · have := Option.some.inj hk'
          simp only [World.size_alloc] at this
          omega
      have RR := hide R1'
      have HH := hide h
      clear g1 b1 h R1'
      go_roundw
      case rel => exact ⟨j + 1, by go_num, hj1, hj2, unhide HH, (unhide RR).1, (unhide RR).2⟩
      case measure => simp [intOf]; omega
    · have e : (T.take j).map (fun x => x.tmod 3) = gOf T := by
        unfold gOf
        rcases (show j = T.length ∨ j = 8 by omega) with rfl | rfl
        · rw [List.take_of_length_le (Nat.le_refl _), List.take_of_length_le (by omega)]
        · rfl
      have hj3 : j = (gOf T).length := by rw [← e]; simp; omega
      have s2 := unhide HO
      rw [e] at s2
      have hcase : (j < T.length ∧ ¬ (j : Int) < 8) ∨ ¬ j < T.length := by omega
      have hG8 := gOf_len T
      clear e
      generalize gOf T = G at *
      subst hj3
      have S2 := hide s2
      have hw2 := (unhide HK).size
      clear s2 HO
      obtain ⟨w2, hw2e⟩ : ∃ w2 : World, w2 = wr := ⟨_, rfl⟩
      subst hw2e
      rcases hcase with ⟨h1, h2⟩ | h1
      all_goals
        go_wp2_with fail
        refine (new_B (B := w2.heap.size) 8 (.slice none 0 0) [] (Nat.le_refl _) (Ow.nil _ _ _) (by simp)).mono ?_
        rintro r w3 ⟨nb, rfl, n3, o3⟩
        have s3 := (unhide S2).only o3 (fun _ _ h => h)
        obtain ⟨A1, c1, rfl⟩ := s3.shape
        have hg2 := (unhide S2).lt
        have N3 := hide (show NetB w2.heap.size w3 nb { (⟨8, [], [], 0, fun _ => 0⟩ : Nst) with gr := fun _ => 0 } from n3)
        have hnb := n3.nb_ge
        have RD := hide (rd_of_ow (nb := nb) s3 (fun k hk => by have := hg2 k hk; omega))
        have hs3 := o3.size
        have K3 := hide (Kept.of_empty (B := w2.heap.size) o3)
        clear n3 o3 s3 hg2
        go_wp2_with fail
        refine (part_B A1 c1 G (unhide N3) hs3 (unhide RD) (by omega)).mono ?_
        rintro r w4 ⟨rfl, n4, k4⟩
        have k4' := (unhide K3).trans k4
        have s4 := (unhide S2).only k4'.only (fun k hk hs => by have := (unhide S2).lt k hk; omega)
        have hs4 := k4'.only.size
        have K4 := hide k4'
        have N4 := hide (show NetB w2.heap.size w4 nb (pS G 0) from n4)
        have s5 := s4.only ((Only.refl (fun _ => False) w4).alloc (.cells #[] 3)) (fun _ _ h => h)
        have e5 : Ow (w4.alloc (.cells #[] 3)) 3 1 (.slice (some ⟨w4.heap.size, 0, none⟩) 0 0) 0 [] := Ow.mk (sp := []) (At.new w4 3 []) rfl (Nat.le_refl _) (by simp [maxLen]) rfl
        have hml : 0 + G.length ≤ maxLen := by unfold maxLen; omega
        have hby : (0 + G.length) * 8 ≤ 140737488355328 := by omega
        have ML := hide hml
        have BY := hide hby
        have E5 := hide e5
        have S5 := hide s5
        have S4 := hide s4
        clear n4 k4 k4' s4 s5 e5 hml hby N3 RD K3
        go_wp2_with (at_builtin; refine wpl_app_ow rfl (.tmp 43) (.tmp 44) 32 rfl 3 i0 _ 1 8 Try.underlying32 hi0 hz0 hz1 hz2 rfl (by decide) (.slice (some ⟨w4.heap.size, 0, none⟩) 0 0) 0 [] rfl (unhide E5) (.slice A1 G.length c1) G.length (ints G) rfl (unhide S5) (ints_one G) (unhide ML) (unhide BY) ?_; intro v1 w5 h g1 b1)
        rw [Nat.zero_add, List.nil_append] at h
        have hg5 : ∀ k, v1.ownBlock = some k → w2.heap.size ≤ k := fun k hk => by
          rcases b1 with e | e
          · rw [e] at hk; simp [Value.ownBlock] at hk; omega
          · rw [e] at hk; have := Option.some.inj hk; simp only [World.size_alloc] at this; omega
        have g5 : Only (fun _ => False) w4 w5 := ((Only.refl (fun _ => False) w4).alloc _).grown g1 (fun k hk hlt => by simp [Value.ownBlock] at hk; omega)
        have OW5 : Hid (0 < G.length → OwnI w5 v1 w2.heap.size G) := hide (own_of h hg5)
        have N5 := hide ((unhide N4).keep g5)
        have O5 := hide ((((unhide HK).mono (T := fun i => w1.heap.size ≤ i) (fun _ _ h => h.elim)).trans (unhide K4).only (fun i _ hi => Nat.le_trans hw2 hi)).trans g5 (fun _ _ h => h.elim))
        have GB : Hid (0 < G.length → ∃ g cs, A1 = some ⟨g, 0, none⟩ ∧ w1.heap.size ≤ g ∧ g < w2.heap.size ∧ At w5 g 3 cs ∧ G.length ≤ cs.length) := hide fun hl => by
          obtain ⟨g, cap, sp, e, ha, _⟩ := (unhide S2).at_ hl
          injection e with e
          subst e
          have hgb := unhide HB g rfl
          have hgl := ha.lt
          exact ⟨g, _, rfl, hgb, hgl, (ha.only (unhide K4).only (fun hs => by omega)).only g5 (fun h => h), by rw [List.length_append, ints_len]; omega⟩
        obtain ⟨A2, c2, rfl⟩ := h.shape
        clear h g1 b1 hg5 g5 E5 S5 S4 ML BY N4 K4 HB S2
        go_loopw [10] (fun kv wr => ∃ j : Nat, kv = .int .i64 j ∧ j ≤ G.length ∧ (0 < G.length → ∃ g cs, A1 = some ⟨g, 0, none⟩ ∧ w1.heap.size ≤ g ∧ g < w2.heap.size ∧ At wr g 3 cs ∧ G.length ≤ cs.length) ∧ NetB w2.heap.size wr nb (pS G 0) ∧
          (0 < G.length → OwnI wr (.slice A2 G.length c2) w2.heap.size G) ∧ Only (fun i => w1.heap.size ≤ i) w1 wr) (fun kv _ => 8 - (intOf kv).toNat)
        case atStart => exact ⟨0, rfl, Nat.zero_le _, unhide GB, unhide N5, unhide OW5, unhide O5⟩
        case round =>
          obtain ⟨j, rfl, hj, hgb, hn, how, ho⟩ := hrel
          have HG := hide hgb
          have HN := hide hn
          have HW := hide how
          have HO := hide ho
          clear hgb hn how ho GB N5 OW5 O5
          by_cases hjl : j < G.length
          · obtain ⟨g, cs, rfl, hga, hgb, ha, hlc⟩ := unhide HG (by omega)
            have hjc : j < cs.length := by omega
            have d0 := ha.cell (List.getElem?_eq_getElem hjc)
            have f0 := ha.frozen j
            have hlt := ha.lt
            have HA := hide ha
            have PU := hide ((Only.refl (· = g) wr).put (p := ⟨g, j, none⟩) (fun _ => rfl) (.int .i64 5))
            generalize cs[j] = y at d0
            clear ha
            go_wp2_with fail
            go_roundw
            case rel => exact ⟨j + 1, by go_num, hjl, fun _ => ⟨g, _, rfl, hga, hgb, (unhide HA).put _ _, by simpa using hlc⟩, (unhide HN).only' (unhide PU) (fun i hi => by rw [hi]; exact hgb), fun hl => ((unhide HW) hl).only (unhide PU) (fun i hi => by rw [hi]; exact hgb), (unhide HO).trans ((unhide PU).mono (T := fun i => w1.heap.size ≤ i) (fun i _ hi => by rw [hi]; exact hga)) (fun _ _ h => h)⟩
            case measure => simp [intOf]; omega
          · clear hj HG
            go_wp2_with fail
            obtain ⟨wo, hwo⟩ : ∃ wo : World, wo = wr := ⟨_, rfl⟩
            subst hwo
            go_loopw [4, 11] (fun ov kv wr => ∃ k : Nat, ov = .bool false ∧ kv = .int .i64 k ∧ k ≤ L.length ∧ k ≤ 20 ∧ NetB w2.heap.size wr nb (pS G k) ∧
              (0 < G.length → OwnI wr (.slice A2 G.length c2) w2.heap.size G) ∧ Only (fun i => w1.heap.size ≤ i) w1 wr) (fun _ kv _ => 20 - (intOf kv).toNat)
            case atStart => exact ⟨0, rfl, rfl, Nat.zero_le _, Nat.zero_le _, unhide HN, unhide HW, unhide HO⟩
            case round =>
              obtain ⟨k, rfl, rfl, hk, hk20, hn, how, ho⟩ := hrel
              have hsz := hn.nb_ge
              have hsz' : w2.heap.size ≤ wr.heap.size := by omega
              have HN2 := hide hn
              have HW2 := hide how
              have HO2 := hide ho
              clear hn how ho HN HW HO
              by_cases hkl : k < L.length ∧ k < 20
              · obtain ⟨hk1, hk2⟩ := hkl
                obtain ⟨b, off, rfl, hc⟩ := (unhide U1) (by omega)
                obtain ⟨q0, q1⟩ := hc k hk1
                have hblt := World.block_lt_of_cell? w1 _ q0
                have d0 := (unhide HO2).cell q0 (fun hs => by dsimp only at hs hblt; omega)
                have d1 := (unhide HO2).cell q1 (fun hs => by dsimp only at hs hblt; omega)
                obtain ⟨hb1, hb2, hb3, hb4⟩ := (unhide HL) k
                generalize (L.getD k (0, 0)).1 = x at *
                generalize (L.getD k (0, 0)).2 = y at *
                obtain ⟨f, hf⟩ : ∃ f : Nat, x % 10 = f := ⟨(x % 10).toNat, by omega⟩
                obtain ⟨t, ht⟩ : ∃ t : Nat, y % 10 = t := ⟨(y % 10).toNat, by omega⟩
                have hf10 : f < 10 := by omega
                have ht10 : t < 10 := by omega
                have hk2' : (k : Int) < 20 := by omega
                clear hc q0 q1
                go_wp2_with fail
                go_quiet (fail)
                have dO := (Only.refl (fun _ => False) wr).drewN nq
                have n6 := (unhide HN2).keep dO
                have o6 := (unhide HO2).trans dO (fun _ _ h => h.elim)
                have w6' := fun hl => OwnI.only (unhide HW2 hl) dO (fun i hi => hi.elim)
                clear HN2 HO2 HW2 dO d0 d1
                generalize wr.drewN nq = wd at *
                have HO6 := hide o6
                have HW6 := hide w6'
                have hsz6 : w2.heap.size ≤ wd.heap.size := by have := n6.nb_ge; omega
                have N6 := hide n6
                have hga : (G.length : Int) ≤ f → groupOf G f = 0 := fun h => group_out G (by omega) h
                have hgb : (G.length : Int) ≤ t → groupOf G t = 0 := fun h => group_out G (by omega) h
                have hea : groupOf G f = G.getD f 0 := by rw [group_at G (by omega)]; rfl
                have heb : groupOf G t = G.getD t 0 := by rw [group_at G (by omega)]; rfl
                have OK := hide (pS_ok G k (by omega) f t k (by omega) (by omega))
                have hdr := pS_drops G k f t
                unfold nodeB at hdr
                rw [decide_eq_false_iff_not, decide_eq_true_eq] at hdr
                have DK := hide (fun (h : ¬ (pS G k).drops f t) => pS_kept G (now := k) h)
                have DD := hide (fun (h : (pS G k).drops f t) => pS_dropped G (now := k) h)
                have hca : (f < G.length ∧ ∃ og c3, A2 = some ⟨og, 0, none⟩ ∧ c2 = c3 ∧ og < wd.heap.size ∧ wd.cell? ⟨og, f, none⟩ = some (.int .i64 (groupOf G f))) ∨ (¬ f < G.length ∧ groupOf G f = 0) := by
                  by_cases h : f < G.length
                  · obtain ⟨og, c3, e, hl, hce⟩ := (w6' (by omega)).cell
                    injection e with e1 e2 e3
                    exact .inl ⟨h, og, c3, e1, e3, hl, by rw [hea]; exact hce f h⟩
                  · exact .inr ⟨h, hga (by omega)⟩
                have hcb : (t < G.length ∧ ∃ og c3, A2 = some ⟨og, 0, none⟩ ∧ c2 = c3 ∧ og < wd.heap.size ∧ wd.cell? ⟨og, t, none⟩ = some (.int .i64 (groupOf G t))) ∨ (¬ t < G.length ∧ groupOf G t = 0) := by
                  by_cases h : t < G.length
                  · obtain ⟨og, c3, e, hl, hce⟩ := (w6' (by omega)).cell
                    injection e with e1 e2 e3
                    exact .inl ⟨h, og, c3, e1, e3, hl, by rw [heb]; exact hce t h⟩
                  · exact .inr ⟨h, hgb (by omega)⟩
                clear hga hgb hea heb n6 o6 w6' R1 HT U1 HL
                generalize groupOf G f = ga at *
                generalize groupOf G t = gb at *
                have HCB := hide hcb
                have HDR := hide hdr
                clear hcb hdr
                have hgx : ¬ (G.length : Int) ≤ f ∨ ¬ (f : Int) < G.length := by omega
                clear hgx
                rcases hca with ⟨ha1, og, c3, rfl, rfl, hol, hce⟩ | ⟨ha1, rfl⟩
                all_goals
                  rcases unhide HCB with ⟨hb1', ob, cb, hbA, hbc, hbl, hce'⟩ | ⟨hb1', rfl⟩
                  all_goals
                    first | subst hbA | (injection hbA with hbA; injection hbA with hbA; subst hbA) | skip
                    try subst hbc
                    go_wp2_with fail
                    refine (send_B k f t ⟨#[]⟩ (unhide N6) hsz6 (unhide OK).1 (unhide OK).2.1 (unhide OK).2.2).mono ?_
                    rintro r w7 ⟨rfl, n7, k7⟩
                    have O7 := hide ((unhide HO6).trans k7.only (fun i _ hi => Nat.le_trans hw2 hi))
                    have W7 := hide (fun hl => OwnI.kept (unhide HW6 hl) k7)
                    have hsz7 : w2.heap.size ≤ w7.heap.size := Nat.le_trans hsz6 k7.only.size
                    clear k7 OK N6 HO6 HW6
                    by_cases hd : (pS G k).drops f t
                    · rw [unhide DD hd] at n7
                      have N7 := hide n7
                      have hdd := (unhide HDR).1 hd
                      clear hd n7 DD DK HDR HCB
                      go_wp2_with fail
                      refine (next_empty (unhide N7) hsz7 rfl).mono ?_
                      rintro r w8 ⟨rfl, n8, k8⟩
                      have o8 := (Only.refl (fun _ => False) w8).alloc (.cells #[.int .i64 0, .int .i64 0, .string ⟨#[]⟩] 31)
                      have N8 := hide (n8.keep o8)
                      have k8' := k8.trans (Kept.of_empty o8)
                      have O8 := hide ((unhide O7).trans k8'.only (fun i _ hi => Nat.le_trans hw2 hi))
                      have W8 := hide (fun hl => OwnI.kept (unhide W7 hl) k8')
                      clear n8 k8 o8 k8' O7 W7 N7
                      by_cases ht8 : (t : Int) < 8
                      · have hf8 : ¬ (8 : Int) ≤ f := by omega
                        have hne := beq_eq_false_iff_ne.2 (hdd.resolve_left (by omega)).2
                        clear hdd
                        first
                        | (exfalso; first | omega | (simp at hne; done))
                        | (go_wp2_with fail
                           go_roundw
                           case rel => exact ⟨k + 1, rfl, by go_num, hk1, hk2, unhide N8, unhide W8, unhide O8⟩
                           case measure => simp [intOf]; omega)
                      · clear hdd
                        first
                        | (exfalso; omega)
                        | (go_wp2_with fail
                           go_roundw
                           case rel => exact ⟨k + 1, rfl, by go_num, hk1, hk2, unhide N8, unhide W8, unhide O8⟩
                           case measure => simp [intOf]; omega)
                    · rw [unhide DK hd] at n7
                      have N7 := hide n7
                      have hdd := fun h => hd ((unhide HDR).2 h)
                      clear hd n7 DD DK HDR HCB
                      go_wp2_with fail
                      refine (next_sorted (unhide N7) hsz7 (by simp) (pM f t k k) [] rfl (fun q hq => by cases hq)).mono ?_
                      rintro r w8 ⟨rfl, n8, k8⟩
                      have o8 := (Only.refl (fun _ => False) w8).alloc (.cells #[.int .i64 f, .int .i64 t, .string ⟨#[]⟩] 31)
                      have N8 := hide (show NetB w2.heap.size _ nb (pS G (k + 1)) from n8.keep o8)
                      have k8' := k8.trans (Kept.of_empty o8)
                      have O8 := hide ((unhide O7).trans k8'.only (fun i _ hi => Nat.le_trans hw2 hi))
                      have W8 := hide (fun hl => OwnI.kept (unhide W7 hl) k8')
                      clear n8 k8 o8 k8' O7 W7 N7
                      dsimp only [pM]
                      have ht8 : (t : Int) < 8 := Int.not_le.1 (fun h => hdd (.inl (by omega)))
                      by_cases hf8 : (8 : Int) ≤ f
                      · clear hdd
                        first
                        | (exfalso; omega)
                        | (go_wp2_with fail
                           go_roundw
                           case rel => exact ⟨k + 1, rfl, by go_num, hk1, hk2, unhide N8, unhide W8, unhide O8⟩
                           case measure => simp [intOf]; omega)
                      · have heq := Decidable.not_not.1 (fun h => hdd (.inr ⟨by omega, h⟩))
                        clear hdd
                        try subst heq
                        first
                        | (exfalso; omega)
                        | (go_wp2_with fail
                           go_roundw
                           case rel => exact ⟨k + 1, rfl, by go_num, hk1, hk2, unhide N8, unhide W8, unhide O8⟩
                           case measure => simp [intOf]; omega)
              · clear hk HW2
                have hcase2 : (k < L.length ∧ ¬ (k : Int) < 20) ∨ ¬ k < L.length := by omega
                rcases hcase2 with ⟨h3, h4⟩ | h3
                all_goals
                  go_wp2_with fail
                  refine (part_B none 0 [] (unhide HN2) hsz' (fun h => absurd h (by simp)) (by simp)).mono ?_
                  rintro r w6 ⟨rfl, n6, k6⟩
                  have N6 := hide (show NetB w2.heap.size w6 nb (pS [] k) from n6)
                  have hsz6 : w2.heap.size ≤ w6.heap.size := Nat.le_trans hsz' k6.only.size
                  have O6 := hide ((unhide HO2).trans k6.only (fun i _ hi => Nat.le_trans hw2 hi))
                  have OK := hide (pS_ok [] k (by omega) 0 7 0 (by omega) (by omega))
                  clear n6 k6 HN2 HO2
                  go_wp2_with fail
                  refine (send_B 0 0 7 ⟨#[]⟩ (unhide N6) hsz6 (unhide OK).1 (unhide OK).2.1 (unhide OK).2.2).mono ?_
                  rintro r w7 ⟨rfl, n7, k7⟩
                  rw [pS_kept [] (pS_last k)] at n7
                  have N7 := hide n7
                  have O7 := hide ((unhide O6).trans k7.only (fun i _ hi => Nat.le_trans hw2 hi))
                  clear n7 k7 N6 O6 OK
                  go_wp2_with fail
                  refine (waits_B 1 (unhide N7) rfl).mono ?_
                  rintro r w' ⟨rfl, rfl⟩
                  go_wp2_with fail
                  go_ret
                  exact ⟨rfl, (unhide O1).trans ((unhide O7).mono (T := fun _ => False) (fun i hi h => by omega)) (fun _ _ h => h)⟩

end Go.Proofs.Ytmhkdpmcnaeaiaa
