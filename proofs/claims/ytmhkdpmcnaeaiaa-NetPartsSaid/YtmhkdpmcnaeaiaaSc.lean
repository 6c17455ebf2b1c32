/-
  The statements' own script: at most twelve elements, without extreme delays: by its contract.
-/
import Derived.Test.YtmhkdpmcnaeaiaaSb
import Derived.Test.YtmhkdpmcnaeaiaaTy
namespace Go.Proofs.Ytmhkdpmcnaeaiaa
open Go.RowKit
set_option linter.unusedVariables false

def trS (t : Tr) : Tr := { t with delay := t.delay.tmod 100000 }
def scriptOf (l : List Tr) : List Tr := (l.take 12).map trS
theorem scriptOf_len (l : List Tr) : (scriptOf l).length ≤ 12 := by simp [scriptOf]; omega
theorem trS_bd (t : Tr) : -100000 < (trS t).delay ∧ (trS t).delay < 100000 := by
  unfold trS
  have h := Int.tmod_lt_of_pos t.delay (b := 100000) (by decide)
  have h2 := Int.tmod_lt_of_pos (-t.delay) (b := 100000) (by decide)
  rw [Int.neg_tmod] at h2
  dsimp only
  omega
theorem next_bd (s : Nst) (l : List Tr) (h : s.sc = scriptOf l) : s.next.delay < 100000 := by
  unfold Nst.next
  split
  · rename_i h0
    have hm : s.sc[s.sn % s.sc.length]'(Nat.mod_lt _ h0) ∈ scriptOf l := by rw [← h]; exact List.getElem_mem _
    simp only [scriptOf, List.mem_map] at hm
    obtain ⟨t, _, ht⟩ := hm
    rw [← ht]
    exact (trS_bd t).2
  · decide

/-- a slice of a script's elements can be read -/
def RdT (w : World) (A : Option Addr) (l : List Tr) : Prop :=
  0 < l.length → ∃ b off, A = some ⟨b, off, none⟩ ∧ ∀ i (h : i < l.length), w.cell? ⟨b, off + i * 3, none⟩ = some (.bool l[i].lost) ∧ w.cell? ⟨b, off + i * 3 + 1, none⟩ = some (.int .i64 l[i].copies) ∧ w.cell? ⟨b, off + i * 3 + 2, none⟩ = some (.int .i64 l[i].delay)

theorem script_step (w wr w0 w1 : World) (A1 : Option Addr) (c1 j : Nat) (v1 : Value) (xs ys : List Value) (h0 : Only (fun _ => False) wr w0) (hk : Only (fun _ => False) w wr) (hb : ∀ k, (Value.slice A1 j c1).ownBlock = some k → w.heap.size ≤ k)
    (ho1 : Ow w1 44 3 v1 (j + 1) (xs ++ ys)) (hg1 : w0.grownBy w1 (Value.slice A1 j c1).ownBlock) (hat : v1.ownBlock = (Value.slice A1 j c1).ownBlock ∨ v1.ownBlock = some w0.heap.size) :
    Ow w1 44 3 v1 (j + 1) (xs ++ ys) ∧ (∀ k, v1.ownBlock = some k → w.heap.size ≤ k) ∧ Only (fun _ => False) w w1 := by
  have h1 := hk.trans h0 (fun _ _ h => h)
  refine ⟨ho1, fun k hk' => ?_, h1.grown hg1 (fun k hk' hlt => by have := hb k hk'; omega)⟩
  rcases hat with e | e <;> rw [e] at hk'
  · exact hb k hk'
  · injection hk' with hk'
    have := h1.size
    omega

set_option maxHeartbeats 1000000 in
theorem script_any (A : Option Addr) (c : Nat) (l : List Tr) (w : World) (hr : RdT w A l) (hm : l.length ≤ 9223372036854775807) (hd : ∀ t ∈ l, -9223372036854775808 ≤ t.delay ∧ t.delay ≤ 9223372036854775807) :
    Calls Try.prog 12 #[.slice A l.length c] w fun e w' => Fresh 44 3 (scriptOf l).length ((scriptOf l).flatMap Tr.cells) w e w' := by
  obtain ⟨i0, hi0, hz0, hz1, hz2⟩ := info_parts Try.info44
  have HR := hide hr
  have HD := hide hd
  clear hr hd
  go_enter Try.func12, Try.ntmps12
  go_wp2_with fail
  go_loopw [3, 4] (fun ov kv wr => ∃ j : Nat, kv = .int .i64 j ∧ j ≤ l.length ∧ j ≤ 12 ∧ Ow wr 44 3 ov j (((l.take j).map trS).flatMap Tr.cells) ∧ (∀ k, ov.ownBlock = some k → w.heap.size ≤ k) ∧ Only (fun _ => False) w wr) (fun _ kv _ => 12 - (intOf kv).toNat)
  case atStart => exact ⟨0, rfl, Nat.zero_le _, Nat.zero_le _, Ow.nil _ _ _, fun k hk => by simp [Value.ownBlock] at hk, Only.refl _ _⟩
  case round =>
    obtain ⟨j, rfl, hj, hj12, ho, hb, hk⟩ := hrel
    by_cases hjl : j < l.length ∧ j < 12
    · obtain ⟨hj1, hj2⟩ := hjl
      obtain ⟨b, off, rfl, hc⟩ := (unhide HR) (by omega)
      obtain ⟨q0, q1, q2⟩ := hc j hj1
      have d0 := hk.cell q0 (fun h => h)
      have d1 := hk.cell q1 (fun h => h)
      have d2 := hk.cell q2 (fun h => h)
      have hbd := (unhide HD) l[j] (List.getElem_mem _)
      have hb1 := hbd.1
      have hb2 := hbd.2
      have e : ((l.take (j + 1)).map trS).flatMap Tr.cells = ((l.take j).map trS).flatMap Tr.cells ++ (trS l[j]).cells := by
        rw [List.take_succ_eq_append_getElem hj1, List.map_append, List.flatMap_append]
        simp
      clear q0 q1 q2 hc hbd
      have E := hide e
      clear e
      have hlb := World.block_lt_of_cell? wr _ d0
      obtain ⟨A1, c1, rfl⟩ := ho.shape
      generalize l[j] = t at *
      obtain ⟨t0, t1, t2⟩ := t
      dsimp only at *
      have O1 : Only (fun _ => False) wr ((wr.alloc (.cells #[.bool t0, .int .i64 t1, .int .i64 (t2.tmod 100000)] 44)).alloc (.cells #[.bool t0, .int .i64 t1, .int .i64 (t2.tmod 100000)] 44)) := ((Only.refl _ wr).alloc _).alloc _
      have hnew := (At.new (wr.alloc (.cells #[.bool t0, .int .i64 t1, .int .i64 (t2.tmod 100000)] 44)) 44 [.bool t0, .int .i64 t1, .int .i64 (t2.tmod 100000)]).news'
      simp only [World.size_alloc] at hnew
      have h1c : ∀ u ∈ ([.bool t0, .int .i64 t1, .int .i64 (t2.tmod 100000)] : List Value), u.oneCell' = true := by
        intro u hu
        simp only [List.mem_cons, List.not_mem_nil, or_false] at hu
        rcases hu with rfl | rfl | rfl <;> rfl
      have ho2 := ho.only O1 (fun _ _ h => h)
      have H1 := hide O1
      have H2 := hide hnew
      have H3 := hide h1c
      have H4 := hide ho2
      have H5 := hide ho
      clear O1 hnew h1c ho2 ho
      go_wp2_with (at_builtin; refine wpl_app rfl (.tmp 24) (.tmp 26) 22 rfl 44 i0 _ 3 24 Try.underlying22 hi0 hz0 hz1 hz2 rfl (by decide) (.slice A1 j c1) j _ rfl (unhide H4) ⟨wr.heap.size + 1, 0, none⟩ 1 1 _ rfl rfl (unhide H2) (unhide H3) (by unfold maxLen; omega) (by omega) ?_; intro v1 w1 ho1 hg1 hat1 _)
      have R := hide (script_step w wr _ w1 A1 c1 j v1 _ _ (unhide H1) hk hb ho1 hg1 hat1)
      clear ho1 hg1 hat1 hk hb
      go_roundw
      case rel => exact ⟨j + 1, by go_num, by omega, by omega, by rw [unhide E]; exact (unhide R).1, (unhide R).2.1, (unhide R).2.2⟩
      case measure => simp [intOf]; omega
    · have HO := hide ho
      have HB := hide hb
      have HK := hide hk
      clear ho hb hk
      have e : (((l.take j).map trS) : List Tr) = scriptOf l := by
        unfold scriptOf
        rcases (show j = l.length ∨ j = 12 by omega) with rfl | rfl
        · rw [List.take_of_length_le (Nat.le_refl _), List.take_of_length_le (by omega)]
        · rfl
      have e2 : j = (scriptOf l).length := by rw [← e]; simp; omega
      have E := hide e
      have E2 := hide e2
      clear e e2
      by_cases h1 : j < l.length
      · have h2 : 12 ≤ j := by omega
        go_wp2_with fail
        go_ret
        exact ⟨_, rfl, by rw [← unhide E2, ← unhide E]; exact unhide HO, unhide HK, unhide HB⟩
      · go_wp2_with fail
        go_ret
        exact ⟨_, rfl, by rw [← unhide E2, ← unhide E]; exact unhide HO, unhide HK, unhide HB⟩

end Go.Proofs.Ytmhkdpmcnaeaiaa
