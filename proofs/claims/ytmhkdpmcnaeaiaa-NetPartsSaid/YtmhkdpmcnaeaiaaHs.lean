/-
  The library's heap over package net's list: down, Push, Pop, each by its contract.
-/
import Derived.Test.YtmhkdpmcnaeaiaaHr
namespace Go.Proofs.Ytmhkdpmcnaeaiaa
open Go.RowKit
set_option linter.unusedVariables false

theorem el_swp_ge {l : List Pc} {i j n : Nat} (hi : i < n) (hj : j < n) (hn : n ≤ l.length) : ∀ k, n ≤ k → el (swp l i j) k = el l k := by
  intro k hk
  rw [el_swp (by omega) (by omega), if_neg (by omega), if_neg (by omega)]

def DownPost (g n : Nat) (sp : List Value) (l : List Pc) (w : World) (e : Ending) (w' : World) : Prop :=
  ∃ b, e = .returned (.bool b) ∧ ∃ l', At w' g 75 (fl l' sp) ∧ l'.Perm l ∧ Heap l' n ∧ (∀ k, n ≤ k → el l' k = el l k) ∧ Only (· = g) w w'

set_option maxHeartbeats 2000000 in
theorem down_any (nb g m n c : Nat) (cs sp : List Value) (l : List Pc) (w : World) (hnb : At w nb 56 cs) (hwv : cs[2]? = some (.slice (some ⟨g, 0, none⟩) m c)) (hg : At w g 75 (fl l sp)) (hl0 : l.length = m) (hnm : n < m) (hm : m ≤ 1000000) (hh : HeapDown l n 0) :
    Calls Try.prog 31 #[.iface 84 (.pointer (some ⟨nb, 2, none⟩)), .int .i64 0, .int .i64 n] w (DownPost g n sp l w) := by
  go_enter Try.func31, Try.ntmps31
  go_wp2
  go_loopw [7] (fun iv wr => ∃ (i : Nat) (l' : List Pc), iv = .int .i64 i ∧ i ≤ n ∧ HeapDown l' n i ∧ l'.Perm l ∧ (∀ k, n ≤ k → el l' k = el l k) ∧ At wr g 75 (fl l' sp) ∧ Only (· = g) w wr) (fun iv _ => n - (intOf iv).toNat)
  case atStart => exact ⟨0, l, rfl, by omega, hh, List.Perm.refl _, fun _ _ => rfl, hg, Only.refl _ _⟩
  case round =>
    obtain ⟨i, l', rfl, hin, hup, hperm, hge, hg', honly⟩ := hrel
    have hlen : l'.length = m := by rw [hperm.length_eq, hl0]
    have hnbr := hnb.only honly (hnb.ne hg (by decide))
    have ml := fun k => m_less (w := wr.drewN k) (hnbr.cell hwv)
    have ml0 := m_less (w := wr) (hnbr.cell hwv)
    have ms := fun k => m_swap (w := wr.drewN k) (hnbr.cell hwv)
    have hlN : l'.length ≤ m := by omega
    have hlI : (m : Int) ≤ (l'.length : Int) := by omega
    have Hlen := Lib.hid hlen
    have Hn := Lib.hid hl0
    have Hge := Lib.hid hge
    clear hlen hl0 hge
    by_cases h0 : n ≤ 2 * i + 1
    · go_wp2_with fail
      all_goals
        go_ret
        exact ⟨_, rfl, l', hg', hperm, down_done hup (fun k _ _ _ => by omega), Hge.out, honly⟩
    · have e1 : (2 * (i : Int) + 1).toNat = 2 * i + 1 := by omega
      have e2 : (2 * (i : Int) + 1 + 1).toNat = 2 * i + 2 := by omega
      have main : ∀ (j : Nat) (k : Nat), (j = 2 * i + 1 ∨ j = 2 * i + 2) → j < n → (∀ q, 0 < q → q < n → (q - 1) / 2 = i → lt (el l' q) (el l' j) = false) →
          lt (el l' j) (el l' i) = false → Heap l' n := fun j k hj hjn hmin hlt => down_done hup (fun q h1 h2 h3 => le_trans' hlt (hmin q h1 h2 h3))
      by_cases h2 : n ≤ 2 * i + 2
      · have hm1 : ∀ q, 0 < q → q < n → (q - 1) / 2 = i → lt (el l' q) (el l' (2 * i + 1)) = false := fun q h1 h2 h3 => by
          obtain rfl : q = 2 * i + 1 := by omega
          exact le_refl' _
        cases hl2 : lt (el l' (2 * i + 1)) (el l' i)
        · have H2 := Lib.hid hl2
          clear hl2
          go_wp2_with fail
          refine (less_int g m c _ _ l' sp _ (by omega) (by omega) (by omega) (by omega) hlN (by omega) hg').mono ?_
          rintro e w1 ⟨rfl, k2, rfl⟩
          rw [Int.toNat_natCast, e1, H2.out]
          go_wp2_with fail
          all_goals
            go_ret
            exact ⟨_, rfl, l', (hg').drewN _, hperm, main (2 * i + 1) 0 (by omega) (by omega) hm1 H2.out, Hge.out, honly.drewN _⟩
        · have H2 := Lib.hid hl2
          clear hl2
          go_wp2_with fail
          refine (less_int g m c _ _ l' sp _ (by omega) (by omega) (by omega) (by omega) hlN (by omega) hg').mono ?_
          rintro e w1 ⟨rfl, k2, rfl⟩
          rw [Int.toNat_natCast, e1, H2.out]
          go_wp2_with fail
          refine (swap_int g m c _ _ l' sp _ (by omega) (by omega) (by omega) (by omega) hlN (by omega) (by omega) (hg'.drewN _)).mono ?_
          rintro e w1 ⟨rfl, ha, ho⟩
          rw [Int.toNat_natCast, e1] at ha
          go_wp2_with fail
          go_roundw
          case rel => exact ⟨2 * i + 1, _, by go_num, by omega, down_step (by rw [Hlen.out]; omega) (by omega) (by omega) (by omega) hup H2.out hm1, (swp_perm (by rw [Hlen.out]; omega) (by rw [Hlen.out]; omega)).trans hperm, fun k hk => (el_swp_ge (by omega) (by omega) (by rw [Hlen.out]; omega) k hk).trans (Hge.out k hk), ha, (honly.drewN k2).trans ho (fun _ _ h => h)⟩
          case measure => simp [intOf]; omega
      · cases hl : lt (el l' (2 * i + 2)) (el l' (2 * i + 1))
        · have hm1 : ∀ q, 0 < q → q < n → (q - 1) / 2 = i → lt (el l' q) (el l' (2 * i + 1)) = false := fun q h1 h2 h3 => by
            rcases (show q = 2 * i + 1 ∨ q = 2 * i + 2 by omega) with rfl | rfl
            · exact le_refl' _
            · exact hl
          have H1 := Lib.hid hl
          clear hl
          cases hl2 : lt (el l' (2 * i + 1)) (el l' i)
          · have H2 := Lib.hid hl2
            clear hl2
            go_wp2_with fail
            refine (less_int g m c _ _ l' sp wr (by omega) (by omega) (by omega) (by omega) hlN (by omega) hg').mono ?_
            rintro e w1 ⟨rfl, k1, rfl⟩
            rw [e1, e2, H1.out]
            go_wp2_with fail
            refine (less_int g m c _ _ l' sp _ (by omega) (by omega) (by omega) (by omega) hlN (by omega) (hg'.drewN k1)).mono ?_
            rintro e w1 ⟨rfl, k2, rfl⟩
            rw [Int.toNat_natCast, e1, H2.out]
            go_wp2_with fail
            all_goals
              go_ret
              exact ⟨_, rfl, l', hg'.drewN _, hperm, main (2 * i + 1) 0 (by omega) (by omega) hm1 H2.out, Hge.out, honly.drewN _⟩
          · have H2 := Lib.hid hl2
            clear hl2
            go_wp2_with fail
            refine (less_int g m c _ _ l' sp wr (by omega) (by omega) (by omega) (by omega) hlN (by omega) hg').mono ?_
            rintro e w1 ⟨rfl, k1, rfl⟩
            rw [e1, e2, H1.out]
            go_wp2_with fail
            refine (less_int g m c _ _ l' sp _ (by omega) (by omega) (by omega) (by omega) hlN (by omega) (hg'.drewN k1)).mono ?_
            rintro e w1 ⟨rfl, k2, rfl⟩
            rw [Int.toNat_natCast, e1, H2.out]
            go_wp2_with fail
            refine (swap_int g m c _ _ l' sp _ (by omega) (by omega) (by omega) (by omega) hlN (by omega) (by omega) (hg'.drewN _)).mono ?_
            rintro e w1 ⟨rfl, ha, ho⟩
            rw [Int.toNat_natCast, e1] at ha
            go_wp2_with fail
            go_roundw
            case rel => exact ⟨2 * i + 1, _, by go_num, by omega, down_step (by rw [Hlen.out]; omega) (by omega) (by omega) (by omega) hup H2.out hm1, (swp_perm (by rw [Hlen.out]; omega) (by rw [Hlen.out]; omega)).trans hperm, fun k hk => (el_swp_ge (by omega) (by omega) (by rw [Hlen.out]; omega) k hk).trans (Hge.out k hk), ha, (honly.drewN _).trans ho (fun _ _ h => h)⟩
            case measure => simp [intOf]; omega
        · have hm2 : ∀ q, 0 < q → q < n → (q - 1) / 2 = i → lt (el l' q) (el l' (2 * i + 2)) = false := fun q h1 h2 h3 => by
            rcases (show q = 2 * i + 1 ∨ q = 2 * i + 2 by omega) with rfl | rfl
            · exact le_of_lt hl
            · exact le_refl' _
          have H1 := Lib.hid hl
          clear hl
          cases hl2 : lt (el l' (2 * i + 2)) (el l' i)
          · have H2 := Lib.hid hl2
            clear hl2
            go_wp2_with fail
            refine (less_int g m c _ _ l' sp wr (by omega) (by omega) (by omega) (by omega) hlN (by omega) hg').mono ?_
            rintro e w1 ⟨rfl, k1, rfl⟩
            rw [e1, e2, H1.out]
            go_wp2_with fail
            refine (less_int g m c _ _ l' sp _ (by omega) (by omega) (by omega) (by omega) hlN (by omega) (hg'.drewN k1)).mono ?_
            rintro e w1 ⟨rfl, k2, rfl⟩
            rw [Int.toNat_natCast, e2, H2.out]
            go_wp2_with fail
            all_goals
              go_ret
              exact ⟨_, rfl, l', hg'.drewN _, hperm, main (2 * i + 2) 0 (by omega) (by omega) hm2 H2.out, Hge.out, honly.drewN _⟩
          · have H2 := Lib.hid hl2
            clear hl2
            go_wp2_with fail
            refine (less_int g m c _ _ l' sp wr (by omega) (by omega) (by omega) (by omega) hlN (by omega) hg').mono ?_
            rintro e w1 ⟨rfl, k1, rfl⟩
            rw [e1, e2, H1.out]
            go_wp2_with fail
            refine (less_int g m c _ _ l' sp _ (by omega) (by omega) (by omega) (by omega) hlN (by omega) (hg'.drewN k1)).mono ?_
            rintro e w1 ⟨rfl, k2, rfl⟩
            rw [Int.toNat_natCast, e2, H2.out]
            go_wp2_with fail
            refine (swap_int g m c _ _ l' sp _ (by omega) (by omega) (by omega) (by omega) hlN (by omega) (by omega) (hg'.drewN _)).mono ?_
            rintro e w1 ⟨rfl, ha, ho⟩
            rw [Int.toNat_natCast, e2] at ha
            go_wp2_with fail
            go_roundw
            case rel => exact ⟨2 * i + 2, _, by go_num, by omega, down_step (by rw [Hlen.out]; omega) (by omega) (by omega) (by omega) hup H2.out hm2, (swp_perm (by rw [Hlen.out]; omega) (by rw [Hlen.out]; omega)).trans hperm, fun k hk => (el_swp_ge (by omega) (by omega) (by rw [Hlen.out]; omega) k hk).trans (Hge.out k hk), ha, (honly.drewN _).trans ho (fun _ _ h => h)⟩
            case measure => simp [intOf]; omega
end Go.Proofs.Ytmhkdpmcnaeaiaa
