/-
  The statements' own sanity check: the walk.
-/
import Derived.Test.YtmhkdpmcnaeaiaaSa
namespace Go.Proofs.Ytmhkdpmcnaeaiaa
open Go.RowKit
set_option linter.unusedVariables false

theorem sa_flat : saScript.flatMap Tr.cells = [.bool false, .int .i64 0, .int .i64 5, .bool true, .int .i64 0, .int .i64 0, .bool false, .int .i64 2, .int .i64 0] := rfl

set_option maxHeartbeats 2000000 in
set_option maxRecDepth 100000 in
theorem sanity_any (w : World) : Calls Try.prog 11 #[] w fun e w' => e = .returned (.bool true) ∧ Only (fun _ => False) w w' := by
  have a0 := At.new w 44 [.bool false, .int .i64 0, .int .i64 5, .bool true, .int .i64 0, .int .i64 0, .bool false, .int .i64 2, .int .i64 0]
  have o0 := (Only.refl (fun _ => False) w).alloc (.cells #[.bool false, .int .i64 0, .int .i64 5, .bool true, .int .i64 0, .int .i64 0, .bool false, .int .i64 2, .int .i64 0] 44)
  have w0 : Ow (w.alloc (.cells #[.bool false, .int .i64 0, .int .i64 5, .bool true, .int .i64 0, .int .i64 0, .bool false, .int .i64 2, .int .i64 0] 44)) 44 3 (.slice (some ⟨w.heap.size, 0, none⟩) 3 3) saScript.length (saScript.flatMap Tr.cells) :=
    Ow.mk (sp := []) (by rw [sa_flat]; exact a0) (by rfl) (Nat.le_refl _) (by simp [maxLen]) (by rfl)
  have O0 := Lib.hid o0
  have W0 := hide w0
  clear a0 o0 w0
  go_enter Try.func11, Try.ntmps11
  go_wp2_with fail
  refine (new_B (B := w.heap.size) 2 _ saScript (by simp) (unhide W0) (by decide)).mono ?_
  rintro e w1 ⟨nb, rfl, n1, o1⟩
  have o1' := O0.out.trans o1 (fun _ _ h => h)
  have hs1 : w.heap.size ≤ w1.heap.size := o1'.size
  have N1 := hide n1
  have O1 := hide (Kept.of_empty (B := w.heap.size) o1')
  clear n1 o1 o1' O0 W0
  go_wp2_with fail
  go_loopw [3] (fun jv wr => ∃ j : Nat, jv = .int .i64 j ∧ j ≤ 4 ∧ NetB w.heap.size wr nb (sa j) ∧ Kept w.heap.size w wr ∧ At wr w1.heap.size 3 [.int .i64 10, .int .i64 11, .int .i64 12, .int .i64 12]) (fun jv _ => 4 - (intOf jv).toNat)
  case atStart => exact ⟨0, rfl, by omega, (unhide N1).keep ((Only.refl _ w1).alloc _), (unhide O1).trans (Kept.of_empty ((Only.refl _ w1).alloc _)), At.new w1 3 [.int .i64 10, .int .i64 11, .int .i64 12, .int .i64 12]⟩
  case round =>
    obtain ⟨j, rfl, hj, hn, hk, ha⟩ := hrel
    have hsz := hk.only.size
    by_cases hj4 : j < 4
    · have ok := sa_ok j hj4
      have hcell : wr.cell? ⟨w1.heap.size, j, none⟩ = some (.int .i64 (saTime j)) := ha.cell (by
        have h : j = 0 ∨ j = 1 ∨ j = 2 ∨ j = 3 := by omega
        rcases h with rfl | rfl | rfl | rfl <;> rfl)
      have HN := hide hn
      have HK := hide hk
      clear hn hk
      go_wp2_with fail
      refine (send_B (saTime j) j 1 ⟨#[]⟩ (unhide HN) hsz ok.1 ok.2.1 ok.2.2).mono ?_
      rintro e w2 ⟨rfl, n2, k2⟩
      have N2 := hide n2
      have K2 := hide ((unhide HK).trans k2)
      have A2 := hide (k2.at_ _ _ _ ha (by decide) (by decide) (by decide))
      clear n2 k2 ok hcell
      go_wp2_with fail
      go_roundw
      case rel => exact ⟨j + 1, by go_num, by omega, unhide N2, unhide K2, unhide A2⟩
      case measure => simp [intOf]; omega
    · obtain rfl : j = 4 := by omega
      have HN := hide (hn.reorder sa4)
      have HK := hide hk
      clear hn hk ha
      go_wp2_with fail
      refine (waits_B 4 ((unhide HN).keep ((Only.refl (fun _ => False) _).alloc _)) (by rfl)).mono ?_
      rintro e w' ⟨rfl, rfl⟩
      obtain ⟨wo, hwo⟩ : ∃ wo : World, wo = wr := ⟨_, rfl⟩
      subst hwo
      have hsz : w.heap.size ≤ wo.heap.size := (unhide HK).only.size
      go_wp2_with fail
      go_loopw [5, 6] (fun kv jv wq => ∃ j : Nat, kv = .bool true ∧ jv = .int .i64 j ∧ j ≤ 4 ∧ NetB w.heap.size wq nb { sa 4 with ws := saWait.drop j } ∧ Kept w.heap.size w wq ∧
          At wq wo.heap.size 63 [.int .i64 2, .int .i64 12, .int .i64 2, .int .i64 13, .int .i64 0, .int .i64 15, .int .i64 3, .int .i64 17]) (fun _ jv _ => 4 - (intOf jv).toNat)
      case atStart => exact ⟨0, rfl, rfl, by omega, (unhide HN).keep ((Only.refl (fun _ => False) _).alloc _), (unhide HK).trans (Kept.of_empty ((Only.refl (fun _ => False) _).alloc _)), At.new wo 63 [.int .i64 2, .int .i64 12, .int .i64 2, .int .i64 13, .int .i64 0, .int .i64 15, .int .i64 3, .int .i64 17]⟩
      case round =>
        obtain ⟨j, rfl, rfl, hj, hn, hk, ha⟩ := hrel
        have hsq := hk.only.size
        by_cases hj4 : j < 4
        · have ok := sa_next j hj4
          have hc : ([.int .i64 2, .int .i64 12, .int .i64 2, .int .i64 13, .int .i64 0, .int .i64 15, .int .i64 3, .int .i64 17] : List Value)[j * 2]? = some (.int .i64 (saW j).fr) ∧
              ([.int .i64 2, .int .i64 12, .int .i64 2, .int .i64 13, .int .i64 0, .int .i64 15, .int .i64 3, .int .i64 17] : List Value)[j * 2 + 1]? = some (.int .i64 (saW j).tm) := by
            have h : j = 0 ∨ j = 1 ∨ j = 2 ∨ j = 3 := by omega
            rcases h with rfl | rfl | rfl | rfl <;> exact ⟨rfl, rfl⟩
          have HN := hide hn
          have HK := hide hk
          have HA := hide ha
          have HC := hide hc
          have OK := hide ok
          have hs' : w.heap.size ≤ wr.heap.size := hsq
          clear hn hk ha hc ok
          go_wp2_with fail
          refine (next_sorted (unhide HN) hs' (unhide OK).2.2 (saW j) (saWait.drop (j + 1)) (unhide OK).1 (unhide OK).2.1).mono ?_
          rintro e w2 ⟨rfl, n2, k2⟩
          have a2 := k2.at_ _ _ _ (unhide HA) (by decide) (by decide) (by decide)
          have c0 := a2.cell (unhide HC).1
          have c1 := a2.cell (unhide HC).2
          have hl2 := a2.lt
          have N2 := hide n2
          have K2 := hide ((unhide HK).trans k2)
          have A2 := hide a2
          clear n2 k2 a2
          generalize saW j = p at *
          go_wp2_with fail
          have hj4' : (j : Int) < 4 := by omega
          go_quiet (fail)
          go_wp2_with fail
          go_roundw
          case rel => exact ⟨j + 1, rfl, by go_num, by omega, (unhide N2).keep (((Only.refl _ w2).alloc _).drewN _), (unhide K2).trans (Kept.of_empty (((Only.refl _ w2).alloc _).drewN _)), ((unhide A2).alloc _).drewN _⟩
          case measure => simp [intOf]; omega
        · obtain rfl : j = 4 := by omega
          have HN := hide hn
          have HK := hide hk
          clear hn hk ha
          have hs' : w.heap.size ≤ wr.heap.size := hsq
          go_wp2_with fail
          refine (next_empty (unhide HN) hs' rfl).mono ?_
          rintro e w2 ⟨rfl, n2, k2⟩
          have hs2 : w.heap.size ≤ w2.heap.size := Nat.le_trans hs' k2.only.size
          have N2 := hide (n2.keep ((Only.refl (fun _ => False) _).alloc (.cells #[.int .i64 0, .int .i64 0, .string ⟨#[]⟩] 31)))
          have K2 := hide (((unhide HK).trans k2).trans (Kept.of_empty ((Only.refl (fun _ => False) _).alloc (.cells #[.int .i64 0, .int .i64 0, .string ⟨#[]⟩] 31))))
          clear n2 k2
          go_wp2_with fail
          refine (send_B (B := w.heap.size) 0 0 2 ⟨#[]⟩ (unhide N2 : NetB _ _ nb sB0) (by simp; omega) sB_0.1 sB_0.2.1 (.inl sB_0.2.2)).mono ?_
          rintro e w3 ⟨rfl, n3, k3⟩
          have hs3 : w.heap.size ≤ w3.heap.size := ((unhide K2).trans k3).only.size
          have N3 := hide (show NetB _ _ nb sB1 from n3)
          have K3 := hide ((unhide K2).trans k3)
          clear n3 k3 N2 K2
          go_wp2_with fail
          refine (waits_B 0 (unhide N3) sB_w1).mono ?_
          rintro e w' ⟨rfl, rfl⟩
          have hrd : RdI (w3.alloc (.cells #[.int .i64 1, .int .i64 2] 3)) nb (some ⟨w3.heap.size, 0, none⟩) [1, 2] := fun _ => ⟨_, rfl, by
            obtain ⟨F, h1, _⟩ := unhide N3
            obtain ⟨_, _, _, _, h1, _⟩ := h1
            have := h1.fields.lt
            simp
            omega, fun j hj => by
              have h : j = 0 ∨ j = 1 := by simp at hj; omega
              rcases h with rfl | rfl
              · exact (At.new w3 3 [.int .i64 1, .int .i64 2]).cell rfl
              · exact (At.new w3 3 [.int .i64 1, .int .i64 2]).cell rfl⟩
          have HR := hide hrd
          clear hrd
          go_wp2_with fail
          refine (part_B (B := w.heap.size) (some ⟨w3.heap.size, 0, none⟩) 2 [1, 2] ((unhide N3).keep ((Only.refl _ w3).alloc _)) (by simp; omega) (unhide HR) (by decide)).mono ?_
          rintro e w4 ⟨rfl, n4, k4⟩
          have k4' := ((unhide K3).trans (Kept.of_empty ((Only.refl _ w3).alloc _))).trans k4
          have hs4 : w.heap.size ≤ w4.heap.size := k4'.only.size
          have N4 := hide (show NetB _ _ nb sB2 from n4)
          have K4 := hide k4'
          clear n4 k4 k4' N3 K3 HR
          go_wp2_with fail
          refine (send_B (B := w.heap.size) 0 0 1 ⟨#[]⟩ (unhide N4) hs4 sB_2.1 sB_2.2.1 (.inl sB_2.2.2)).mono ?_
          rintro e w5 ⟨rfl, n5, k5⟩
          have hs5 : w.heap.size ≤ w5.heap.size := ((unhide K4).trans k5).only.size
          have N5 := hide (show NetB _ _ nb sB3 from n5)
          have K5 := hide ((unhide K4).trans k5)
          clear n5 k5 N4 K4
          go_wp2_with fail
          refine (waits_B 0 (unhide N5) sB_w3).mono ?_
          rintro e w' ⟨rfl, rfl⟩
          go_wp2_with fail
          refine (send_B (B := w.heap.size) 0 7 1 ⟨#[]⟩ (unhide N5) hs5 sB_3.1 sB_3.2.1 (.inr sB_3.2.2)).mono ?_
          rintro e w6 ⟨rfl, n6, k6⟩
          have N6 := hide (show NetB _ _ nb sB4 from n6)
          have K6 := hide ((unhide K5).trans k6)
          clear n6 k6 N5 K5
          go_wp2_with fail
          refine (waits_B 1 (unhide N6) sB_w4).mono ?_
          rintro e w' ⟨rfl, rfl⟩
          go_wp2_with fail
          go_ret
          exact ⟨rfl, (unhide K6).empty⟩

end Go.Proofs.Ytmhkdpmcnaeaiaa
