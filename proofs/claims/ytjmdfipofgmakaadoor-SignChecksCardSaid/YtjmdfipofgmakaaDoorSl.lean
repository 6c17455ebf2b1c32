/-
  slices.Chunk over bytes: what its iterator hands out, 64 bytes at a time.
-/
import Derived.RangeFuncNested
import Derived.RangeFuncBound
import Derived.RangeFuncCalls
import Derived.RangeFuncLeaves
import Derived.Shelf.Abstract
import Derived.Shelf.RegionOpen
import Derived.WalkKit
import Derived.OwnWalkIn
import Derived.TacticsInMore
import Derived.LoopNIn
import Derived.LoopIn
import Derived.BigRegionIn
import Derived.Lib.MinMax
import Derived.Test.YtjmdfipofgmakaaDoorSk
namespace Go.Proofs.YtjmdfipofgmakaaDoor
open Go.RowKit Go.Shelf
set_option linter.unusedVariables false
set_option linter.unusedSimpArgs false
attribute [local go_sem] Oper.semAt_some

/-- what a round may change: block gs, and what is new -/
def KpG (gs n₀ : Nat) (W W' : World) : Prop := Only (fun k => k = gs ∨ n₀ ≤ k) W W'
def fins (K : Nat) : Nat → List (Fin K)
  | 0 => []
  | k + 1 => if h : k < K then fins K k ++ [⟨k, h⟩] else fins K k
theorem fins_succ {K k : Nat} (h : k < K) : fins K (k + 1) = fins K k ++ [⟨k, h⟩] := by simp [fins, h]
theorem fins_len {K : Nat} : ∀ k, k ≤ K → (fins K k).length = k
  | 0, _ => rfl
  | k + 1, h => by
    have h' : k < K := h
    rw [fins_succ h', List.length_append, fins_len k (Nat.le_of_lt h')]; rfl

set_option maxRecDepth 100000 in
set_option maxHeartbeats 2000000 in
theorem chunk1_in (F : Fence) (n : Nat) (hF : F.fn 141) (hro : F.round = none) (hn : 1 ≤ n) (l Bs Bn n₀ gs g cap K : Nat) (hK : (64 * K : Int) ≤ 9223372036854775807) (hcap : 64 * K ≤ cap) (hcap2 : (cap : Int) ≤ 9223372036854775807) (h1 : Bs < n₀) (h2 : Bn < n₀) (h3 : Bs ≠ gs) (h4 : Bn ≠ gs) (J Jx : List (Fin K) → World → Prop) (hd : ∀ pre W, J pre W → J pre W.drew)
    (hY : ∀ pre x W, J pre W → pre.length < K → YieldAt F (n - 1) Tryd.prog l #[.slice (some ⟨g, 64 * x.val, none⟩) 64 64] W fun e W' =>
      (e = .returned (.bool true) ∧ J (pre ++ [x]) W' ∧ KpG gs n₀ W W') ∨ (e = .returned (.bool false) ∧ Jx (pre ++ [x]) W'))
    (W : World) (hBs : W.cell? ⟨Bs, 0, none⟩ = some (.slice (some ⟨g, 0, none⟩) (64 * K) cap)) (hBn : W.cell? ⟨Bn, 0, none⟩ = some (.int .i64 64)) (h0 : J [] W) :
    CallsIn F n Tryd.prog 141 #[.func (.yield l) #[] #[], .pointer (some ⟨Bs, 0, none⟩), .pointer (some ⟨Bn, 0, none⟩)] W fun e W' => (∃ v, e = .returned v) ∧
      ((∃ ys, ys = fins K K ∧ J ys W') ∨ (∃ pre, True ∧ Jx pre W')) := by
  refine callsIn_of_wp Tryd.func141 rfl hF ?_ hro
  simp only [Tryd.ntmps141, List.size_toArray, List.length_cons, List.length_nil, Nat.reduceAdd, Nat.reduceSub, Array.replicate_succ, Array.replicate_zero, List.push_toArray, List.append_toArray, List.nil_append, List.cons_append]
  gi_wp2
  gi_loopw [4] (fun i wr => ∃ k : Nat, k ≤ K ∧ i = .int .i64 ((64 * k : Nat) : Int) ∧ J (fins K k) wr ∧ wr.cell? ⟨Bs, 0, none⟩ = some (.slice (some ⟨g, 0, none⟩) (64 * K) cap) ∧ wr.cell? ⟨Bn, 0, none⟩ = some (.int .i64 64))
    (fun i _ => 64 * K - (intOf i).toNat)
  case atStart => exact ⟨0, Nat.zero_le _, rfl, h0, hBs, hBn⟩
  case round =>
    obtain ⟨k, hk, rfl, hJs, cs, cn⟩ := hrel
    by_cases hlt : k < K
    · obtain ⟨fn, tmps, assign, body, hy, hR⟩ := hY _ ⟨k, hlt⟩ wr.drew (hd _ _ hJs) (by rw [fins_len k hk]; exact hlt)
      dsimp only at hy
      have hmin : min (64 : Int) ((64 * K - 64 * k : Nat) : Int) = 64 := by omega
      have hsub : (64 * (k : Int) + 64).toNat - 64 * k = 64 := by omega
      have HM := Lib.hid hmin
      have HSB := Lib.hid hsub
      clear hmin hsub
      have i5 : (64 : Int) * (k : Int) + 64 ≤ (cap : Int) := by omega
      have i1 : (64 : Int) * (k : Int) < 64 * (K : Int) := by omega
      have i2 : 64 * k ≤ 64 * K := by omega
      have i3 : (64 : Int) * (k : Int) ≤ (cap : Int) := by omega
      have i4 : (64 : Int) ≤ 64 * (K : Int) - 64 * (k : Int) := by omega
      gi_wp2
      gi_region
      all_goals simp only [HM.out]
      all_goals gi_wp2
      all_goals
        refine hR.mono ?_
        rintro e W3 (⟨rfl, hJ3, hk3⟩ | ⟨rfl, hJx3⟩)
        · have cs3 : W3.cell? ⟨Bs, 0, none⟩ = some (.slice (some ⟨g, 0, none⟩) (64 * K) cap) := Only.cell (w := wr.drew) hk3 cs (by dsimp only; omega)
          have cn3 : W3.cell? ⟨Bn, 0, none⟩ = some (.int .i64 64) := Only.cell (w := wr.drew) hk3 cn (by dsimp only; omega)
          gi_wp2
          go_roundw
          case rel => exact ⟨k + 1, by omega, by go_num, by rw [fins_succ hlt]; exact hJ3, cs3, cn3⟩
          case measure => simp [intOf]; omega
        · gi_wp2
          refine bodyPost_ret (results_none rfl _ _ _) rfl ?_
          exact ⟨⟨_, rfl⟩, .inr ⟨_, trivial, hJx3⟩⟩
    · obtain rfl : k = K := by omega
      gi_wp2
      go_end0
      exact ⟨⟨_, rfl⟩, .inl ⟨_, rfl, hJs⟩⟩
end Go.Proofs.YtjmdfipofgmakaaDoor
