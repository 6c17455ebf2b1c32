/-
  Package net's Send of a message that is kept, by its contract.
-/
import Derived.Test.YtmhkdpmcnaeaiaaNw
import Derived.Lib.MinMax
namespace Go.Proofs.Ytmhkdpmcnaeaiaa
open Go.RowKit
set_option linter.unusedVariables false

def pj (s : Nst) (now fr dt : Int) (tx : ByteArray) (j : Nat) : Pc := ⟨fr, dt, tx, now + max s.next.delay 0 + j, s.sn⟩
theorem send_far {w : World} {nb g : Nat} {t : TypeId} {cs : List Value} {s : Nst} {sv wv gv : Value} {l : List Pc} (h : At w g t cs) (hp : NetP w nb s sv wv gv l) (h1 : t ≠ 56) (h2 : 75 ≠ t) : ¬ (g = nb ∨ wv.ownBlock = some g) := by
  rintro (rfl | e)
  · exact h.ne hp.fields h1 rfl
  · exact hp.wait.ne_at h h2 e

theorem send_step (nb : Nat) (s : Nst) (f : Nat → Pc) (sv wv wv' wv2 gv : Value) (l' l2 : List Pc) (w wr w2 : World) (j : Nat)
    (hp : NetP wr nb { s with sn := s.sn + 1, ws := s.ws ++ (List.range j).map f } sv wv' gv l') (ho : Only (fun k => k = nb ∨ wv.ownBlock = some k) w wr) (hw : wv'.ownBlock = wv.ownBlock ∨ ∃ k, w.heap.size ≤ k ∧ wv'.ownBlock = some k)
    (g1 : At w2 nb 56 ([.int .i64 s.nd, sv, wv', .int .i64 ((s.sn + 1 : Nat) : Int), gv].set 2 wv2)) (g2 : Ow w2 75 5 wv2 l2.length (l2.flatMap Pc.cells)) (g3 : l2.Perm (l' ++ [f j])) (g4 : Heap l2 l2.length)
    (g5 : Only (fun k => k = nb ∨ wv'.ownBlock = some k) wr.drew w2) (g6 : wv2.ownBlock = wv'.ownBlock ∨ ∃ k, wr.drew.heap.size ≤ k ∧ wv2.ownBlock = some k) :
    NetP w2 nb { s with sn := s.sn + 1, ws := s.ws ++ (List.range (j + 1)).map f } sv wv2 gv l2 ∧ Only (fun k => k = nb ∨ wv.ownBlock = some k) w w2 ∧ (wv2.ownBlock = wv.ownBlock ∨ ∃ k, w.heap.size ≤ k ∧ wv2.ownBlock = some k) := by
  refine ⟨⟨g1, ?_, g2, ?_, g4, ?_⟩, ?_, ?_⟩
  · refine Ow.only (w := wr.drew) hp.script g5 fun k hk => ?_
    rintro (rfl | e)
    · exact hp.script.ne_at hp.fields (by decide) hk
    · exact hp.wait.ne_ow hp.script (by decide) hk e
  · refine g3.trans ?_
    rw [List.range_succ, List.map_append, ← List.append_assoc]
    exact hp.perm.append_right _
  · refine MapG.only (w := wr.drew) hp.groups g5 fun k hk => ?_
    rintro (rfl | e)
    · exact hp.groups.ne_at hp.fields hk
    · exact hp.groups.ne_ow hp.wait e hk
  · refine (ho.drew).trans g5 fun i hi hig => ?_
    rcases hig with rfl | e
    · exact Or.inl rfl
    · rcases hw with h | ⟨k, hk, h⟩
      · exact Or.inr (h.symm.trans e)
      · rw [h] at e
        injection e with e
        omega
  · rcases g6 with h | ⟨k, hk, h⟩
    · rw [h]; exact hw
    · exact Or.inr ⟨k, Nat.le_trans ho.size hk, h⟩

theorem many_le (t : Tr) : t.many ≤ 8 := by unfold Tr.many; omega
theorem many_int (t : Tr) : ((t.many : Nat) : Int) = min (max t.copies 1) 8 := by unfold Tr.many; omega
def SendPost (nb : Nat) (s' : Nst) (sv wv gv : Value) (w w' : World) : Prop := ∃ wv' l', NetP w' nb s' sv wv' gv l' ∧ Only (fun k => k = nb ∨ wv.ownBlock = some k) w w' ∧ (wv'.ownBlock = wv.ownBlock ∨ ∃ k, w.heap.size ≤ k ∧ wv'.ownBlock = some k)
theorem hide {p : Prop} (h : p) : Hid p := h
theorem unhide {p : Prop} (h : Hid p) : p := h
set_option maxHeartbeats 400000 in
theorem send_keep (nb : Nat) (now fr dt : Int) (tx : ByteArray) (s : Nst) (sv wv gv : Value) (l : List Pc) (w : World) (h : NetP w nb s sv wv gv l) (hm : s.sc.length ≤ 1000000) (hsn : s.sn < 1000000) (hd : ¬ s.drops fr dt) (hb : -1000000000000 ≤ now) (hb' : now ≤ 1000000000000) (hb2 : s.next.delay ≤ 1000000000000) (hb3 : l.length ≤ 900000) :
    Calls Try.prog 15 #[.pointer (some ⟨nb, 0, none⟩), .int .i64 now, .agg #[.int .i64 fr, .int .i64 dt, .string tx]] w fun e w' => e = .returned (.tuple #[]) ∧ SendPost nb { s with sn := s.sn + 1, ws := s.ws ++ s.parcels now fr dt tx } sv wv gv w w' := by
  have o1 : Only (fun _ => False) w (w.alloc (.cells #[.int .i64 fr, .int .i64 dt, .string tx] 31)) := (Only.refl _ w).alloc _
  have h1 := h.only o1 (fun _ _ h => h)
  have H1 := Lib.hid o1
  clear o1
  go_enter Try.func15, Try.ntmps15
  go_wp2_with fail
  refine (trouble_any nb s sv wv gv l _ h1 hm (by omega)).mono ?_
  rintro e w1 ⟨rfl, o2⟩
  have h2 := h1.only o2 (fun _ _ h => h)
  have hlt := h2.fields.lt
  have c3 := h2.fields.cell (i := 3) rfl
  have f3 := h2.fields.frozen 3
  have hsz := o2.size
  simp only [World.size_alloc] at hsz
  have bm := ((At.new w 31 [.int .i64 fr, .int .i64 dt, .string tx]).only o2 (fun h => h)).far (p := ⟨nb, 3, none⟩) (by have := h.fields.lt; simp; omega) (.int .i64 ((s.sn : Int) + 1))
  have o3 : Only (· = nb) w (w1.setCell ⟨nb, 3, none⟩ (.int .i64 ((s.sn : Int) + 1))) := Only.put (S := (· = nb)) (p := ⟨nb, 3, none⟩) (Only.trans (S := (· = nb)) (H1.out.mono (fun _ _ h => h.elim)) o2 (fun _ _ h => h.elim)) (fun _ => rfl) _
  have h3 := h2.sent
  have H3 := Lib.hid h3
  have O3 := Lib.hid o3
  have BM := Lib.hid bm
  clear h3 o3 bm o2 H1 h1
  go_wp2_with fail
  have h4 := (H3.out.only ((Only.refl (fun _ => False) _).alloc (.cells #[.bool s.next.lost, .int .i64 s.next.copies, .int .i64 s.next.delay] 44)) (fun _ _ h => h))
  have o4 := O3.out.alloc (.cells #[.bool s.next.lost, .int .i64 s.next.copies, .int .i64 s.next.delay] 44)
  have bm4 := BM.out.alloc (.cells #[.bool s.next.lost, .int .i64 s.next.copies, .int .i64 s.next.delay] 44)
  have bt4 := At.new (w1.setCell ⟨nb, 3, none⟩ (.int .i64 ((s.sn : Int) + 1))) 44 [.bool s.next.lost, .int .i64 s.next.copies, .int .i64 s.next.delay]
  simp only [World.size_setCell] at bt4
  clear H3 O3 BM c3 f3
  generalize hwx : (w1.setCell ⟨nb, 3, none⟩ (.int .i64 ((s.sn : Int) + 1))).alloc (.cells #[.bool s.next.lost, .int .i64 s.next.copies, .int .i64 s.next.delay] 44) = wx at *
  clear hwx h2
  have c0 := h4.fields.cell (i := 0) rfl
  have c4 := h4.fields.cell (i := 4) rfl
  have m0 := bm4.cell (i := 0) rfl
  have m1 := bm4.cell (i := 1) rfl
  have t0 := bt4.cell (i := 0) rfl
  have t1 := bt4.cell (i := 1) rfl
  have BM4 := Lib.hid bm4
  have BT4 := Lib.hid bt4
  have hlk : ∀ n k, (Instr.lookup 54 gv (.int .i64 k) false).run Try.prog (wx.drewN n) = .ok (.int .i64 (s.gr k)) (wx.drewN n) := fun n k => look_MapG (w := wx.drewN n) (h4.groups.only ((Only.refl (fun _ => False) _).drewN n) (fun _ _ h => h)) k
  have H4 := Lib.hid h4
  have O4 := Lib.hid o4
  clear h4 o4 bm4 bt4
  have hl' : s.next.lost = false := by
    cases hx : s.next.lost
    · rfl
    · exact absurd (Or.inl hx) hd
  rw [hl'] at t0
  have hn : nodeB s.nd dt = true := by
    cases hx : nodeB s.nd dt
    · exact absurd (Or.inr (Or.inl hx)) hd
    · rfl
  have cn1 : ∀ n, Calls Try.prog 25 #[.pointer (some ⟨nb, 0, none⟩), .int .i64 dt] (wx.drewN n) fun e w' => e = .returned (.bool true) ∧ w' = wx.drewN n := fun n => by
    have := node_any dt s.nd nb (wx.drewN n) c0
    rw [hn] at this
    exact this
  have CN1 := hide cn1
  cases hn2 : nodeB s.nd fr
  · have cn2 : ∀ n, Calls Try.prog 25 #[.pointer (some ⟨nb, 0, none⟩), .int .i64 fr] (wx.drewN n) fun e w' => e = .returned (.bool false) ∧ w' = wx.drewN n := fun n => by
      have := node_any fr s.nd nb (wx.drewN n) c0
      rw [hn2] at this
      exact this
    have CN2 := hide cn2
    clear hl' hd cn1 cn2 hn hn2
    go_quiet ((first | (go_at_call 25; with_reducible exact Calls.quiet_of_same (unhide CN1 _)) | (go_at_call 25; with_reducible exact Calls.quiet_of_same (unhide CN2 _))))
    go_wp2_with fail
    have hmany := many_int s.next
    have hx1 : max s.next.delay 0 ≤ 1000000000000 := by omega
    have hx2 : 0 ≤ max s.next.delay 0 := by omega
    have h4len := H4.out.perm.length_eq
    dsimp only at h4len
    have hm8 := many_le s.next
    have HMI := Lib.hid hmany
    go_loopw [60] (fun jv wr => ∃ (j : Nat) (wv' : Value) (l' : List Pc), jv = .int .i64 j ∧ j ≤ s.next.many ∧ NetP wr nb { s with sn := s.sn + 1, ws := s.ws ++ (List.range j).map (pj s now fr dt tx) } sv wv' gv l' ∧
        Only (fun k => k = nb ∨ wv.ownBlock = some k) w wr ∧ (wv'.ownBlock = wv.ownBlock ∨ ∃ k, w.heap.size ≤ k ∧ wv'.ownBlock = some k) ∧ At wr w.heap.size 31 [.int .i64 fr, .int .i64 dt, .string tx] ∧
        At wr w1.heap.size 44 [.bool s.next.lost, .int .i64 s.next.copies, .int .i64 s.next.delay]) (fun jv _ => 8 - (intOf jv).toNat)
    case atStart => exact ⟨0, wv, l, rfl, by omega, by simpa using H4.out.only ((Only.refl (fun _ => False) _).drewN _) (fun _ _ h => h), (O4.out.mono (fun _ _ h => Or.inl h)).drewN _, Or.inl rfl, BM4.out.drewN _, BT4.out.drewN _⟩
    case round =>
      obtain ⟨j, wv', l', rfl, hj, hp, ho, hw, hbm, hbt⟩ := hrel
      clear c0 c4 m0 m1 t0 t1 hlk H4 O4 BM4 BT4 CN1 CN2
      have d0 := hbm.cell (i := 0) rfl
      have d1 := hbm.cell (i := 1) rfl
      have d2 := hbm.cell (i := 2) rfl
      have d3 := hbt.cell (i := 2) rfl
      by_cases hlt2 : j < s.next.many
      · have hlt3 : (j : Int) < min (max s.next.copies 1) 8 := by rw [← HMI.out]; omega
        have HX := Lib.hid hmany
        clear hmany
        have HP := Lib.hid hp.fields
        have HW := hide hp.wait
        have HH := hide hp.heap
        have HPP := hide hp
        have hll : l'.length = l.length + j := by rw [hp.perm.length_eq, List.length_append, ← h4len]; simp
        have HLL := hide hll
        have hl9 : l'.length < 1000000 := by omega
        clear hp hll
        go_wp2_with fail
        have hv1 : IntKind.i64.wrap (now + max s.next.delay 0) = now + max s.next.delay 0 := IntWalk.i64_in _ (by omega)
        have hv2 : IntKind.i64.wrap (now + max s.next.delay 0 + (j : Int)) = now + max s.next.delay 0 + (j : Int) := IntWalk.i64_in _ (by omega)
        refine wp_region_still_tail 13 (by kernel_rfl) (by kernel_rfl) ?_
        simp only [List.take_succ_cons, List.take_zero, List.drop_succ_cons, List.drop_zero]
        still_step
        still_call (queue_any _ _)
        repeat still_step
        refine wpStill_nil ?_
        change wpList _ _ _ _ _ wr.drew
        go_wp2_with fail
        refine (hpush_any nb _ wv' l' (pj s now fr dt tx j) _ HP.out.drew rfl ((unhide HW).only (Only.drew (Only.refl (fun _ => False) wr)) (fun _ _ h => h)) hl9 (unhide HH)).mono ?_
        rintro e w2 ⟨rfl, wv2, l2, g1, g2, g3, g4, g5, g6⟩
        have G := Lib.hid (send_step nb s (pj s now fr dt tx) sv wv wv' wv2 gv l' l2 w wr w2 j (unhide HPP) ho hw g1 g2 g3 g4 g5 g6)
        have BM5 := Lib.hid (hbm.drew.only g5 (send_far hbm (unhide HPP) (by decide) (by decide)))
        have BT5 := Lib.hid (hbt.drew.only g5 (send_far hbt (unhide HPP) (by decide) (by decide)))
        clear g1 g2 g3 g4 g5 g6 hbm hbt ho hw d0 d1 d2 d3 hv1 hv2
        go_wp2_with fail
        go_roundw
        case rel => exact ⟨j + 1, wv2, l2, by go_num, by omega, G.out.1, G.out.2.1, G.out.2.2, BM5.out, BT5.out⟩
        case measure => simp [intOf]; omega
      · have hlt3 : ¬ (j : Int) < min (max s.next.copies 1) 8 := by rw [← HMI.out]; omega
        obtain rfl : j = s.next.many := by omega
        have HPP := hide hp
        have HX := Lib.hid hmany
        clear hmany hp
        go_wp2_with fail
        go_end0
        exact ⟨rfl, wv', l', unhide HPP, ho, hw⟩
  · have cn2 : ∀ n, Calls Try.prog 25 #[.pointer (some ⟨nb, 0, none⟩), .int .i64 fr] (wx.drewN n) fun e w' => e = .returned (.bool true) ∧ w' = wx.drewN n := fun n => by
      have := node_any fr s.nd nb (wx.drewN n) c0
      rw [hn2] at this
      exact this
    have CN2 := hide cn2
    have hne : (s.gr fr != s.gr dt) = false := by
      by_cases e : s.gr fr = s.gr dt
      · simp [e]
      · exact absurd (Or.inr (Or.inr ⟨hn2, e⟩)) hd
    clear hl' hd cn1 cn2 hn hn2
    go_quiet ((first | (go_at_call 25; with_reducible exact Calls.quiet_of_same (unhide CN1 _)) | (go_at_call 25; with_reducible exact Calls.quiet_of_same (unhide CN2 _))))
    go_wp2_with fail
    have hmany := many_int s.next
    have h4len := H4.out.perm.length_eq
    dsimp only at h4len
    have hm8 := many_le s.next
    have HMI := Lib.hid hmany
    go_loopw [60] (fun jv wr => ∃ (j : Nat) (wv' : Value) (l' : List Pc), jv = .int .i64 j ∧ j ≤ s.next.many ∧ NetP wr nb { s with sn := s.sn + 1, ws := s.ws ++ (List.range j).map (pj s now fr dt tx) } sv wv' gv l' ∧
        Only (fun k => k = nb ∨ wv.ownBlock = some k) w wr ∧ (wv'.ownBlock = wv.ownBlock ∨ ∃ k, w.heap.size ≤ k ∧ wv'.ownBlock = some k) ∧ At wr w.heap.size 31 [.int .i64 fr, .int .i64 dt, .string tx] ∧
        At wr w1.heap.size 44 [.bool s.next.lost, .int .i64 s.next.copies, .int .i64 s.next.delay]) (fun jv _ => 8 - (intOf jv).toNat)
    case atStart => exact ⟨0, wv, l, rfl, by omega, by simpa using H4.out.only ((Only.refl (fun _ => False) _).drewN _) (fun _ _ h => h), (O4.out.mono (fun _ _ h => Or.inl h)).drewN _, Or.inl rfl, BM4.out.drewN _, BT4.out.drewN _⟩
    case round =>
      obtain ⟨j, wv', l', rfl, hj, hp, ho, hw, hbm, hbt⟩ := hrel
      clear c0 c4 m0 m1 t0 t1 hlk H4 O4 BM4 BT4 CN1 CN2
      have d0 := hbm.cell (i := 0) rfl
      have d1 := hbm.cell (i := 1) rfl
      have d2 := hbm.cell (i := 2) rfl
      have d3 := hbt.cell (i := 2) rfl
      by_cases hlt2 : j < s.next.many
      · have hlt3 : (j : Int) < min (max s.next.copies 1) 8 := by rw [← HMI.out]; omega
        have HX := Lib.hid hmany
        clear hmany
        have HP := Lib.hid hp.fields
        have HW := hide hp.wait
        have HH := hide hp.heap
        have HPP := hide hp
        have hll : l'.length = l.length + j := by rw [hp.perm.length_eq, List.length_append, ← h4len]; simp
        have HLL := hide hll
        have hl9 : l'.length < 1000000 := by omega
        clear hp hll
        go_wp2_with fail
        have hv1 : IntKind.i64.wrap (now + max s.next.delay 0) = now + max s.next.delay 0 := IntWalk.i64_in _ (by omega)
        have hv2 : IntKind.i64.wrap (now + max s.next.delay 0 + (j : Int)) = now + max s.next.delay 0 + (j : Int) := IntWalk.i64_in _ (by omega)
        refine wp_region_still_tail 13 (by kernel_rfl) (by kernel_rfl) ?_
        simp only [List.take_succ_cons, List.take_zero, List.drop_succ_cons, List.drop_zero]
        still_step
        still_call (queue_any _ _)
        repeat still_step
        refine wpStill_nil ?_
        change wpList _ _ _ _ _ wr.drew
        go_wp2_with fail
        refine (hpush_any nb _ wv' l' (pj s now fr dt tx j) _ HP.out.drew rfl ((unhide HW).only (Only.drew (Only.refl (fun _ => False) wr)) (fun _ _ h => h)) hl9 (unhide HH)).mono ?_
        rintro e w2 ⟨rfl, wv2, l2, g1, g2, g3, g4, g5, g6⟩
        have G := Lib.hid (send_step nb s (pj s now fr dt tx) sv wv wv' wv2 gv l' l2 w wr w2 j (unhide HPP) ho hw g1 g2 g3 g4 g5 g6)
        have BM5 := Lib.hid (hbm.drew.only g5 (send_far hbm (unhide HPP) (by decide) (by decide)))
        have BT5 := Lib.hid (hbt.drew.only g5 (send_far hbt (unhide HPP) (by decide) (by decide)))
        clear g1 g2 g3 g4 g5 g6 hbm hbt ho hw d0 d1 d2 d3 hv1 hv2
        go_wp2_with fail
        go_roundw
        case rel => exact ⟨j + 1, wv2, l2, by go_num, by omega, G.out.1, G.out.2.1, G.out.2.2, BM5.out, BT5.out⟩
        case measure => simp [intOf]; omega
      · have hlt3 : ¬ (j : Int) < min (max s.next.copies 1) 8 := by rw [← HMI.out]; omega
        obtain rfl : j = s.next.many := by omega
        have HPP := hide hp
        have HX := Lib.hid hmany
        clear hmany hp
        go_wp2_with fail
        go_end0
        exact ⟨rfl, wv', l', unhide HPP, ho, hw⟩


/-- a net behind a message, and what has changed -/
def Nst.send (s : Nst) (now fr dt : Int) (tx : ByteArray) : Nst :=
  if s.next.lost = true ∨ nodeB s.nd dt = false ∨ (nodeB s.nd fr = true ∧ s.gr fr ≠ s.gr dt) then { s with sn := s.sn + 1 } else { s with sn := s.sn + 1, ws := s.ws ++ s.parcels now fr dt tx }
/-- a net is turned: what it was lay in F -/
def Turned (nb : Nat) (s' : Nst) (F : Nat → Prop) (w w' : World) : Prop := ∃ F', NetIs w' nb s' F' ∧ Only F w w' ∧ ∀ k, F' k → F k ∨ w.heap.size ≤ k

theorem foot_turn {nb : Nat} {sv wv wv' gv : Value} {w : World} (hw : wv'.ownBlock = wv.ownBlock ∨ ∃ k, w.heap.size ≤ k ∧ wv'.ownBlock = some k) : ∀ k, foot nb sv wv' gv k → foot nb sv wv gv k ∨ w.heap.size ≤ k := by
  rintro k (h | h | h | h)
  · exact .inl (.inl h)
  · exact .inl (.inr (.inl h))
  · rcases hw with e | ⟨j, hj, e⟩
    · exact .inl (.inr (.inr (.inl (by rw [← e]; exact h))))
    · rw [h] at e
      injection e with e
      exact .inr (by omega)
  · exact .inl (.inr (.inr (.inr h)))

theorem send_any (nb : Nat) (now fr dt : Int) (tx : ByteArray) (s : Nst) (F : Nat → Prop) (w : World) (h : NetIs w nb s F) (hm : s.sc.length ≤ 1000000) (hsn : s.sn < 1000000)
    (hb : s.drops fr dt ∨ (-1000000000000 ≤ now ∧ now ≤ 1000000000000 ∧ s.next.delay ≤ 1000000000000 ∧ s.ws.length ≤ 900000)) :
    Calls Try.prog 15 #[.pointer (some ⟨nb, 0, none⟩), .int .i64 now, .agg #[.int .i64 fr, .int .i64 dt, .string tx]] w fun e w' => e = .returned (.tuple #[]) ∧ Turned nb (s.send now fr dt tx) F w w' := by
  obtain ⟨sv, wv, gv, l, h, rfl⟩ := h
  by_cases hd : s.drops fr dt
  · have e : s.send now fr dt tx = { s with sn := s.sn + 1 } := if_pos hd
    rw [e]
    exact (send_drop nb now fr dt tx s sv wv gv l w h hm hsn hd).mono fun _ _ ⟨h1, h2, h3⟩ => ⟨h1, _, ⟨sv, wv, gv, l, h2, rfl⟩, h3.mono (fun _ _ h => Or.inl h), fun k hk => Or.inl hk⟩
  · have e : s.send now fr dt tx = { s with sn := s.sn + 1, ws := s.ws ++ s.parcels now fr dt tx } := if_neg hd
    rw [e]
    obtain ⟨b1, b2, b3, b4⟩ := hb.resolve_left hd
    refine (send_keep nb now fr dt tx s sv wv gv l w h hm hsn hd b1 b2 b3 (by rw [h.perm.length_eq]; exact b4)).mono fun _ _ h2 => ?_
    obtain ⟨h1, wv', l', h2, h3, h4⟩ := h2
    exact ⟨h1, _, ⟨sv, wv', gv, l', h2, rfl⟩, h3.mono (fun _ _ h => h.elim Or.inl fun h => Or.inr (Or.inr (Or.inl h))), foot_turn h4⟩

end Go.Proofs.Ytmhkdpmcnaeaiaa
