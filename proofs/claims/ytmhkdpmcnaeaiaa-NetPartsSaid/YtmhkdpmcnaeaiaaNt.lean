/-
  Package net's small functions, and the library's Push and Pop over its list, each by its contract.
-/
import Derived.Test.YtmhkdpmcnaeaiaaHs
import Derived.Test.YtmhkdpmcnaeaiaaMap
import Derived.StillTailTactics
namespace Go.Proofs.Ytmhkdpmcnaeaiaa
open Go.RowKit
set_option linter.unusedVariables false

structure Tr where
  lost : Bool
  copies : Int
  delay : Int
def Tr.cells (t : Tr) : List Value := [.bool t.lost, .int .i64 t.copies, .int .i64 t.delay]
theorem Tr.cells_length (t : Tr) : t.cells.length = 3 := rfl

theorem tr_at {w : World} {g : Nat} {l : List Tr} {sp : List Value} (h : At w g 44 (l.flatMap Tr.cells ++ sp)) {i : Nat} (hi : i < l.length) :
    w.cell? ⟨g, i * 3, none⟩ = some (.bool l[i].lost) ∧ w.cell? ⟨g, i * 3 + 1, none⟩ = some (.int .i64 l[i].copies) ∧ w.cell? ⟨g, i * 3 + 2, none⟩ = some (.int .i64 l[i].delay) := by
  have e := fun j (hj : j < 3) => flat_get Tr.cells 3 Tr.cells_length sp l i j hi hj
  exact ⟨h.cell (e 0 (by omega)), h.cell (e 1 (by omega)), h.cell (e 2 (by omega))⟩

set_option maxHeartbeats 400000 in
theorem node_yes (k n : Int) (nb : Nat) (w : World) (hc : w.cell? ⟨nb, 0, none⟩ = some (.int .i64 n)) (h0 : 0 ≤ k) (h1 : k < n) :
    Calls Try.prog 25 #[.pointer (some ⟨nb, 0, none⟩), .int .i64 k] w fun e w' => e = .returned (.bool true) ∧ w' = w := by
  go_enter Try.func25, Try.ntmps25
  go_wp2
  go_ret
  exact ⟨rfl, rfl⟩
set_option maxHeartbeats 400000 in
theorem node_no (k n : Int) (nb : Nat) (w : World) (hc : w.cell? ⟨nb, 0, none⟩ = some (.int .i64 n)) (h : ¬ (0 ≤ k ∧ k < n)) :
    Calls Try.prog 25 #[.pointer (some ⟨nb, 0, none⟩), .int .i64 k] w fun e w' => e = .returned (.bool false) ∧ w' = w := by
  by_cases h0 : 0 ≤ k
  · have h1 : n ≤ k := by omega
    go_enter Try.func25, Try.ntmps25
    go_wp2
    go_ret
    exact ⟨ret_bool (by simp; omega), rfl⟩
  · go_enter Try.func25, Try.ntmps25
    go_wp2
    go_ret
    exact ⟨rfl, rfl⟩

def nodeB (n k : Int) : Bool := decide (0 ≤ k ∧ k < n)
theorem node_any (k n : Int) (nb : Nat) (w : World) (hc : w.cell? ⟨nb, 0, none⟩ = some (.int .i64 n)) :
    Calls Try.prog 25 #[.pointer (some ⟨nb, 0, none⟩), .int .i64 k] w fun e w' => e = .returned (.bool (nodeB n k)) ∧ w' = w := by
  by_cases h : 0 ≤ k ∧ k < n
  · have e : nodeB n k = true := by simpa [nodeB] using h
    rw [e]; exact node_yes k n nb w hc h.1 h.2
  · have e : nodeB n k = false := by simpa [nodeB] using h
    rw [e]; exact node_no k n nb w hc h

set_option maxHeartbeats 400000 in
theorem queue_any (nb : Nat) (w : World) :
    Calls Try.prog 27 #[.pointer (some ⟨nb, 0, none⟩)] w fun e w' => e = .returned (.iface 84 (.pointer (some ⟨nb, 2, none⟩))) ∧ w' = w := by
  go_enter Try.func27, Try.ntmps27
  go_wp2
  go_ret
  exact ⟨rfl, rfl⟩

set_option maxHeartbeats 400000 in
theorem trouble_none (nb : Nat) (w : World) (hc : w.cell? ⟨nb, 1, none⟩ = some (.slice none 0 0)) :
    Calls Try.prog 24 #[.pointer (some ⟨nb, 0, none⟩)] w fun e w' => e = .returned (.agg #[.bool false, .int .i64 1, .int .i64 1]) ∧ Only (fun _ => False) w w' := by
  have hlt := World.block_lt_of_cell? w _ hc
  go_enter Try.func24, Try.ntmps24
  go_wp2
  exact bodyPost_ret (v := .agg #[.bool false, .int .i64 1, .int .i64 1]) (by simp [results, Try.results24, go_sem]) rfl ⟨rfl, (Only.refl _ w).alloc _⟩

set_option maxHeartbeats 400000 in
theorem trouble_some (nb g sn c : Nat) (l : List Tr) (sp : List Value) (w : World) (hc : w.cell? ⟨nb, 1, none⟩ = some (.slice (some ⟨g, 0, none⟩) l.length c)) (hs : w.cell? ⟨nb, 3, none⟩ = some (.int .i64 sn))
    (hg : At w g 44 (l.flatMap Tr.cells ++ sp)) (hl : 0 < l.length) (hm : l.length ≤ 1000000) (hsn : sn ≤ 1000000) :
    Calls Try.prog 24 #[.pointer (some ⟨nb, 0, none⟩)] w fun e w' => e = .returned (.agg #[.bool (l[sn % l.length]'(Nat.mod_lt _ hl)).lost, .int .i64 (l[sn % l.length]'(Nat.mod_lt _ hl)).copies, .int .i64 (l[sn % l.length]'(Nat.mod_lt _ hl)).delay]) ∧ Only (fun _ => False) w w' := by
  have hlt := World.block_lt_of_cell? w _ hc
  have hlg := hg.lt
  have hi : sn % l.length < l.length := Nat.mod_lt _ hl
  obtain ⟨t0, t1, t2⟩ := tr_at hg hi
  have el0 : ((l.length : Int) == 0) = false := by rw [beq_eq_false_iff_ne]; omega
  generalize hx : l[sn % l.length]'(Nat.mod_lt _ hl) = t at *
  obtain ⟨x0, x1, x2⟩ := t
  clear hx
  dsimp only [Tr.cells] at *
  go_enter Try.func24, Try.ntmps24
  go_wp2_with fail
  go_region
  go_wp2
  exact bodyPost_ret (v := .agg #[.bool x0, .int .i64 x1, .int .i64 x2]) (by simp [results, Try.results24, go_sem]) rfl ⟨rfl, ((Only.refl _ w).alloc _).drew⟩


set_option maxHeartbeats 400000 in
theorem waiting_any (nb n c : Nat) (A : Option Addr) (w : World) (hc : w.cell? ⟨nb, 2, none⟩ = some (.slice A n c)) :
    Calls Try.prog 21 #[.pointer (some ⟨nb, 0, none⟩)] w fun e w' => e = .returned (.int .i64 n) ∧ w' = w := by
  have ml := m_len hc
  go_enter Try.func21, Try.ntmps21
  go_wp2_with (first | (go_at_call 27; refine (queue_any _ _).mono ?_; rintro e w' ⟨rfl, rfl⟩) | (go_at_call 48; refine (len_any _ _ _ _).mono ?_; rintro e w' ⟨rfl, rfl⟩))
  go_ret
  exact ⟨rfl, rfl⟩
set_option maxHeartbeats 400000 in
theorem waiting_nil (w : World) : Calls Try.prog 21 #[.pointer none] w fun e w' => e = .returned (.int .i64 0) ∧ w' = w := by
  go_enter Try.func21, Try.ntmps21
  go_wp2
  go_ret
  exact ⟨rfl, rfl⟩

set_option maxHeartbeats 400000 in
theorem hpush_any (nb : Nat) (cs : List Value) (wv : Value) (l : List Pc) (p : Pc) (w : World) (hnb : At w nb 56 cs) (hwv : cs[2]? = some wv) (how : Ow w 75 5 wv l.length (l.flatMap Pc.cells)) (hl : l.length < 1000000) (hh : Heap l l.length) :
    Calls Try.prog 26 #[.iface 84 (.pointer (some ⟨nb, 2, none⟩)), .iface 75 (.agg #[.int .i64 p.fr, .int .i64 p.ds, .string p.tx, .int .i64 p.tm, .int .i64 p.sn])] w fun e w' => e = .returned (.tuple #[]) ∧ ∃ wv' l', At w' nb 56 (cs.set 2 wv') ∧ Ow w' 75 5 wv' l'.length (l'.flatMap Pc.cells) ∧
      l'.Perm (l ++ [p]) ∧ Heap l' l'.length ∧ Only (fun k => k = nb ∨ wv.ownBlock = some k) w w' ∧ (wv'.ownBlock = wv.ownBlock ∨ ∃ k, w.heap.size ≤ k ∧ wv'.ownBlock = some k) := by
  have mp := m_push ⟨nb, 2, none⟩
  have hlen : 2 < cs.length := by
    rcases Nat.lt_or_ge 2 cs.length with h | h
    · exact h
    · rw [List.getElem?_eq_none h] at hwv; cases hwv
  have H := Lib.hid hwv
  clear hwv
  go_enter Try.func26, Try.ntmps26
  go_wp2_with fail
  refine (push_any nb cs wv l p w hnb H.out how (by omega)).mono ?_
  rintro e w1 ⟨rfl, wv1, h1, h2, h3, h4⟩
  have hc1 : (cs.set 2 wv1)[2]? = some wv1 := by simp [hlen]
  obtain ⟨g, cap, sp, rfl, k1, k2, k3, k4⟩ := h2.at_ (by omega)
  have ml := m_len (h1.cell hc1)
  have H1 := Lib.hid hc1
  clear hc1
  go_wp2_with (go_at_call 48; refine (len_any _ _ _ _).mono ?_; rintro e w' ⟨rfl, rfl⟩)
  refine (up_any nb g (l.length + 1) cap l.length _ sp (l ++ [p]) _ h1 H1.out k1 (by simp) (by omega) (by omega) (heap_push p hh)).mono ?_
  rintro e w2 ⟨rfl, l', q1, q2, q3, q4⟩
  have e5 : l'.length = l.length + 1 := by rw [q2.length_eq]; simp
  have H5 := Lib.hid e5
  clear e5
  go_wp2_with fail
  go_end0
  refine ⟨rfl, _, l', h1.only q4 (h1.ne k1 (by decide)), ?_, q2, by rw [H5.out]; exact q3, h3.trans q4 ?_, h4⟩
  · rw [H5.out]
    refine Ow.mk q1 ?_ k2 k3 ?_
    · rw [flat_length _ 5 Pc.cells_length, H5.out]
    · rw [← k4, List.length_append, List.length_append, flat_length _ 5 Pc.cells_length, flat_length _ 5 Pc.cells_length, H5.out]; simp
  · intro i hi hig
    subst hig
    rcases h4 with e | ⟨k, hk, e⟩
    · exact Or.inr (e.symm.trans rfl)
    · have : k = i := by simpa [Value.ownBlock] using e.symm
      omega

theorem take_el {l : List Pc} {n : Nat} (h : l.length = n + 1) : l = l.take n ++ [el l n] := by
  have e := List.take_succ_eq_append_getElem (l := l) (i := n) (by omega)
  rw [List.take_of_length_le (by omega)] at e
  rw [el_eq (by omega)]
  exact e

set_option maxHeartbeats 400000 in
theorem hpop_any (nb : Nat) (cs : List Value) (wv : Value) (l : List Pc) (w : World) (hnb : At w nb 56 cs) (hwv : cs[2]? = some wv) (how : Ow w 75 5 wv l.length (l.flatMap Pc.cells)) (hl : l.length < 1000000) (hl0 : 0 < l.length) (hh : Heap l l.length) :
    Calls Try.prog 29 #[.iface 84 (.pointer (some ⟨nb, 2, none⟩))] w fun e w' => e = .returned (.iface 75 (.agg #[.int .i64 (el l 0).fr, .int .i64 (el l 0).ds, .string (el l 0).tx, .int .i64 (el l 0).tm, .int .i64 (el l 0).sn])) ∧ ∃ wv' l', At w' nb 56 (cs.set 2 wv') ∧ Ow w' 75 5 wv' l'.length (l'.flatMap Pc.cells) ∧
      l.Perm (el l 0 :: l') ∧ Heap l' l'.length ∧ Only (fun k => k = nb ∨ wv.ownBlock = some k) w w' ∧ wv'.ownBlock = wv.ownBlock := by
  obtain ⟨g, cap, sp, rfl, k1, k2, k3, k4⟩ := how.at_ hl0
  obtain ⟨n, hn⟩ : ∃ n, l.length = n + 1 := ⟨l.length - 1, by omega⟩
  rw [hn] at hwv hh k2 hl ⊢
  have mp := fun w => m_pop ⟨nb, 2, none⟩ w
  have ml := m_len (hnb.cell hwv)
  have ms := m_swap (hnb.cell hwv)
  have H := Lib.hid hwv
  have Hn := Lib.hid hn
  clear hwv hn
  go_enter Try.func29, Try.ntmps29
  go_wp2_with (go_at_call 48; refine (len_any _ _ _ _).mono ?_; rintro e w' ⟨rfl, rfl⟩)
  have e1 : ((n + 1 : Nat) : Int) - 1 = (n : Int) := by omega
  refine (swap_all g (n + 1) cap 0 n l sp w (by omega) (by rw [Hn.out]; omega) (by rw [Hn.out]; omega) (by omega) k1).mono ?_
  rintro e w1 ⟨rfl, a1, o1⟩
  have hl1 : (swp l 0 n).length = n + 1 := by rw [swp_length, Hn.out]
  have hnb1 := hnb.only o1 (hnb.ne k1 (by decide))
  have hp1 := swp_perm (l := l) (i := 0) (j := n) (by rw [Hn.out]; omega) (by rw [Hn.out]; omega)
  have hd := heap_pop Hn.out hh
  have hen : el (swp l 0 n) n = el l 0 := by rw [el_swp (by rw [Hn.out]; omega) (by rw [Hn.out]; omega), if_pos rfl]
  have H1 := Lib.hid hl1
  have H2 := Lib.hid hen
  clear hl1 hen ml ms
  go_wp2_with fail
  refine (down_any nb g (n + 1) n cap cs sp (swp l 0 n) w1 hnb1 H.out a1 H1.out (by omega) (by omega) hd).mono ?_
  rintro e w2 ⟨b, rfl, l2, a2, p2, h2, ge2, o2⟩
  have hnb2 := hnb1.only o2 (hnb.ne k1 (by decide))
  have hl2 : l2.length = n + 1 := by rw [p2.length_eq]; exact H1.out
  have hel : el l2 n = el l 0 := (ge2 n (Nat.le_refl _)).trans H2.out
  have H3 := Lib.hid hl2
  have H4 := Lib.hid hel
  have H5 := Lib.hid ge2
  clear hl2 hel ge2 e1
  go_wp2_with fail
  refine (pop_any nb g n cap cs sp l2 w2 hnb2 H.out a2 H3.out k2 (by unfold maxLen at k3; omega)).mono ?_
  rintro e w3 ⟨rfl, q1, q2⟩
  rw [H4.out]
  have hlt : (l2.take n).length = n := by rw [List.length_take, H3.out]; omega
  have H6 := Lib.hid hlt
  clear hlt
  go_wp2_with fail
  go_ret
  refine ⟨rfl, _, l2.take n, q1, ?_, ?_, ?_, ?_, rfl⟩
  · have a3 := a2.only q2 (fun e => hnb.ne k1 (by decide) e.symm)
    have e3 : fl l2 sp = (l2.take n).flatMap Pc.cells ++ ((el l2 n).cells ++ sp) := by
      have t : l2.flatMap Pc.cells = (l2.take n ++ [el l2 n]).flatMap Pc.cells := congrArg (List.flatMap Pc.cells) (take_el H3.out)
      rw [fl, t]
      simp
    rw [e3] at a3
    rw [H6.out]
    refine Ow.mk a3 ?_ (by omega) k3 ?_
    · rw [flat_length _ 5 Pc.cells_length, H6.out]
    · rw [← k4, ← e3]
      simp [fl, flat_length _ 5 Pc.cells_length, H3.out, Hn.out]
  · have h5 := (p2.trans hp1).symm
    have h6 : l2.Perm (el l 0 :: l2.take n) := by
      have := take_el H3.out
      rw [H4.out] at this
      rw [this]
      refine List.perm_append_comm.trans ?_
      simp [H6.out]
    exact h5.trans h6
  · rw [H6.out]
    refine heap_congr h2 (fun k hk => ?_)
    simp [el, List.getD_eq_getElem?_getD, hk]
  · refine (((o1.mono (fun i _ h => Or.inr (by rw [h]; rfl))).trans o2 (fun i _ h => Or.inr (by rw [h]; rfl))).trans q2 (fun i _ h => Or.inl h))

end Go.Proofs.Ytmhkdpmcnaeaiaa
