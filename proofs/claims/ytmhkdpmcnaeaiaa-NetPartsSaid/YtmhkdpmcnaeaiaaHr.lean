/-
  The library's heap over package net's list: up, down, Push, Pop, each by its contract.
-/
import Derived.Test.YtmhkdpmcnaeaiaaHq
namespace Go.Proofs.Ytmhkdpmcnaeaiaa
open Go.RowKit
set_option linter.unusedVariables false

theorem less_int (g n c : Nat) (a b : Int) (l : List Pc) (sp : List Value) (w : World) (ha0 : 0 ≤ a) (hb0 : 0 ≤ b) (ha : a < (l.length : Int)) (hb : b < (l.length : Int)) (hn : l.length ≤ n) (hm : n ≤ 9223372036854775807) (h : At w g 75 (fl l sp)) :
    Calls Try.prog 49 #[.slice (some ⟨g, 0, none⟩) n c, .int .i64 a, .int .i64 b] w fun e w' => e = .returned (.bool (lt (el l a.toNat) (el l b.toNat))) ∧ ∃ k, w' = w.drewN k := by
  obtain ⟨i, rfl⟩ := Int.eq_ofNat_of_zero_le ha0
  obtain ⟨j, rfl⟩ := Int.eq_ofNat_of_zero_le hb0
  exact less_any g n c i j l sp w (by omega) (by omega) hn hm h
theorem swap_int (g n c : Nat) (a b : Int) (l : List Pc) (sp : List Value) (w : World) (ha0 : 0 ≤ a) (hb0 : 0 ≤ b) (ha : a < (l.length : Int)) (hb : b < (l.length : Int)) (hn : l.length ≤ n) (hm : n ≤ 9223372036854775807) (hne : ¬ a = b) (h : At w g 75 (fl l sp)) :
    Calls Try.prog 50 #[.slice (some ⟨g, 0, none⟩) n c, .int .i64 a, .int .i64 b] w fun e w' => e = .returned (.tuple #[]) ∧ At w' g 75 (fl (swp l a.toNat b.toNat) sp) ∧ Only (· = g) w w' := by
  obtain ⟨i, rfl⟩ := Int.eq_ofNat_of_zero_le ha0
  obtain ⟨j, rfl⟩ := Int.eq_ofNat_of_zero_le hb0
  exact swap_ne g n c i j l sp w (by omega) (by omega) hn hm (by omega) h

set_option maxHeartbeats 1000000 in
theorem up_any (nb g n c j0 : Nat) (cs sp : List Value) (l : List Pc) (w : World) (hnb : At w nb 56 cs) (hwv : cs[2]? = some (.slice (some ⟨g, 0, none⟩) n c)) (hg : At w g 75 (fl l sp)) (hn : l.length = n) (hm : n ≤ 1000000) (hj : j0 < n) (hh : HeapUp l n j0) :
    Calls Try.prog 30 #[.iface 84 (.pointer (some ⟨nb, 2, none⟩)), .int .i64 j0] w fun e w' => e = .returned (.tuple #[]) ∧ ∃ l', At w' g 75 (fl l' sp) ∧ l'.Perm l ∧ Heap l' n ∧ Only (· = g) w w' := by
  go_enter Try.func30, Try.ntmps30
  go_wp2
  go_loopw [1] (fun jv wr => ∃ (j : Nat) (l' : List Pc), jv = .int .i64 j ∧ j < n ∧ HeapUp l' n j ∧ l'.Perm l ∧ At wr g 75 (fl l' sp) ∧ Only (· = g) w wr) (fun jv _ => (intOf jv).toNat)
  case atStart => exact ⟨j0, l, rfl, hj, hh, List.Perm.refl _, hg, Only.refl _ _⟩
  case round =>
    obtain ⟨j, l', rfl, hjn, hup, hperm, hg', honly⟩ := hrel
    have hlen : l'.length = n := by rw [hperm.length_eq, hn]
    have hnbr := hnb.only honly (hnb.ne hg (by decide))
    have ml := m_less (hnbr.cell hwv)
    have ms := fun k => m_swap (w := wr.drewN k) (hnbr.cell hwv)
    have hlN : l'.length ≤ n := by omega
    have hlI : (n : Int) ≤ (l'.length : Int) := by omega
    have Hlen := Lib.hid hlen
    have Hn := Lib.hid hn
    clear hlen hn
    by_cases h0 : j = 0
    · subst h0
      go_wp2_with fail
      go_end0
      exact ⟨rfl, l', hg', hperm, up_done0 hup, honly⟩
    · have e1 : (((j : Int) - 1) / 2).toNat = (j - 1) / 2 := by omega
      have e2 : ((((j - 1) / 2 : Nat)) : Int) = ((j : Int) - 1) / 2 := by omega
      cases hl : lt (el l' j) (el l' ((j - 1) / 2))
      · have H := Lib.hid hl
        clear hl
        go_wp2_with fail
        refine (less_int g n c _ _ l' sp wr (by omega) (by omega) (by omega) (by omega) hlN (by omega) hg').mono ?_
        rintro e w1 ⟨rfl, k, rfl⟩
        rw [Int.toNat_natCast, e1, H.out]
        go_wp2_with fail
        go_end0
        exact ⟨rfl, l', hg'.drewN k, hperm, up_done hup H.out, honly.drewN k⟩
      · have H := Lib.hid hl
        clear hl
        go_wp2_with fail
        refine (less_int g n c _ _ l' sp wr (by omega) (by omega) (by omega) (by omega) hlN (by omega) hg').mono ?_
        rintro e w1 ⟨rfl, k, rfl⟩
        rw [Int.toNat_natCast, e1, H.out]
        go_wp2_with fail
        refine (swap_int g n c _ _ l' sp _ (by omega) (by omega) (by omega) (by omega) hlN (by omega) (by omega) (hg'.drewN k)).mono ?_
        rintro e w1 ⟨rfl, ha, ho⟩
        rw [Int.toNat_natCast, e1] at ha
        go_wp2_with fail
        go_roundw
        case rel => exact ⟨(j - 1) / 2, _, by rw [e2], by omega, up_step (by rw [Hlen.out]; omega) (by omega) hjn hup H.out, (swp_perm (by rw [Hlen.out]; omega) (by rw [Hlen.out]; omega)).trans hperm, ha, (honly.drewN k).trans ho (fun _ _ h => h)⟩
        case measure => simp [intOf]; omega
end Go.Proofs.Ytmhkdpmcnaeaiaa
