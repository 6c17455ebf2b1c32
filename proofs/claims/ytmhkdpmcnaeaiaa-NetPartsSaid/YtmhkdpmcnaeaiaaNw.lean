/-
  Package net's Send of a message that is dropped, by its contract.
-/
import Derived.Test.YtmhkdpmcnaeaiaaNs
namespace Go.Proofs.Ytmhkdpmcnaeaiaa
open Go.RowKit
set_option linter.unusedVariables false

theorem NetP.sent {w : World} {nb : Nat} {s : Nst} {sv wv gv : Value} {l : List Pc} (h : NetP w nb s sv wv gv l) : NetP (w.setCell ⟨nb, 3, none⟩ (.int .i64 ((s.sn : Int) + 1))) nb { s with sn := s.sn + 1 } sv wv gv l :=
  h.fields_turn (by
    have := h.fields.put 3 (.int .i64 ((s.sn : Int) + 1))
    simpa using this) ((Only.refl (· = nb) w).put (p := ⟨nb, 3, none⟩) (fun _ => rfl) _)

set_option maxHeartbeats 2000000 in
theorem send_drop (nb : Nat) (now fr dt : Int) (tx : ByteArray) (s : Nst) (sv wv gv : Value) (l : List Pc) (w : World) (h : NetP w nb s sv wv gv l) (hm : s.sc.length ≤ 1000000) (hsn : s.sn < 1000000) (hd : s.drops fr dt) :
    Calls Try.prog 15 #[.pointer (some ⟨nb, 0, none⟩), .int .i64 now, .agg #[.int .i64 fr, .int .i64 dt, .string tx]] w fun e w' => e = .returned (.tuple #[]) ∧ NetP w' nb { s with sn := s.sn + 1 } sv wv gv l ∧ Only (· = nb) w w' := by
  have o1 : Only (fun _ => False) w (w.alloc (.cells #[.int .i64 fr, .int .i64 dt, .string tx] 31)) := (Only.refl _ w).alloc _
  have h1 := h.only o1 (fun _ _ h => h)
  have H1 := Lib.hid o1
  clear o1
  go_enter Try.func15, Try.ntmps15
  go_wp2_with fail
  refine (trouble_any nb s sv wv gv l _ h1 hm (by omega)).mono ?_
  rintro e w1 ⟨rfl, o2⟩
  have h2 := h1.only o2 (fun _ _ h => h)
  have hlt := h2.fields.lt
  have c3 := h2.fields.cell (i := 3) rfl
  have f3 := h2.fields.frozen 3
  have hsz := o2.size
  simp only [World.size_alloc] at hsz
  have bm := ((At.new w 31 [.int .i64 fr, .int .i64 dt, .string tx]).only o2 (fun h => h)).far (p := ⟨nb, 3, none⟩) (by have := h.fields.lt; simp; omega) (.int .i64 ((s.sn : Int) + 1))
  have o3 : Only (· = nb) w (w1.setCell ⟨nb, 3, none⟩ (.int .i64 ((s.sn : Int) + 1))) := Only.put (S := (· = nb)) (p := ⟨nb, 3, none⟩) (Only.trans (S := (· = nb)) (H1.out.mono (fun _ _ h => h.elim)) o2 (fun _ _ h => h.elim)) (fun _ => rfl) _
  have h3 := h2.sent
  have H3 := Lib.hid h3
  have O3 := Lib.hid o3
  have BM := Lib.hid bm
  clear h3 o3 bm o2 H1 h1
  go_wp2_with fail
  have h4 := (H3.out.only ((Only.refl (fun _ => False) _).alloc (.cells #[.bool s.next.lost, .int .i64 s.next.copies, .int .i64 s.next.delay] 44)) (fun _ _ h => h))
  have o4 := O3.out.alloc (.cells #[.bool s.next.lost, .int .i64 s.next.copies, .int .i64 s.next.delay] 44)
  have bm4 := BM.out.alloc (.cells #[.bool s.next.lost, .int .i64 s.next.copies, .int .i64 s.next.delay] 44)
  have bt4 := At.new (w1.setCell ⟨nb, 3, none⟩ (.int .i64 ((s.sn : Int) + 1))) 44 [.bool s.next.lost, .int .i64 s.next.copies, .int .i64 s.next.delay]
  simp only [World.size_setCell] at bt4
  clear H3 O3 BM c3 f3
  generalize hwx : (w1.setCell ⟨nb, 3, none⟩ (.int .i64 ((s.sn : Int) + 1))).alloc (.cells #[.bool s.next.lost, .int .i64 s.next.copies, .int .i64 s.next.delay] 44) = wx at *
  clear hwx h2
  have c0 := h4.fields.cell (i := 0) rfl
  have c4 := h4.fields.cell (i := 4) rfl
  have m0 := bm4.cell (i := 0) rfl
  have m1 := bm4.cell (i := 1) rfl
  have t0 := bt4.cell (i := 0) rfl
  have hlk : ∀ n k, (Instr.lookup 54 gv (.int .i64 k) false).run Try.prog (wx.drewN n) = .ok (.int .i64 (s.gr k)) (wx.drewN n) := fun n k => look_MapG (w := wx.drewN n) (h4.groups.only ((Only.refl (fun _ => False) _).drewN n) (fun _ _ h => h)) k
  have H4 := Lib.hid h4
  have O4 := Lib.hid o4
  clear h4 o4 bm4 bt4
  by_cases hl : s.next.lost = true
  · rw [hl] at t0
    have HD := Lib.hid hl
    clear hl
    go_quiet (fail)
    go_wp2
    exact bodyPost_ret (results_none rfl _ _ _) rfl ⟨rfl, by simpa using H4.out.only ((Only.refl (fun _ => False) _).drewN _) (fun _ _ h => h), O4.out.drewN _⟩
  · have hl' : s.next.lost = false := by simpa using hl
    rw [hl'] at t0
    have tac : True := trivial
    cases hn : nodeB s.nd dt
    · clear hl hl' hd
      go_quiet ((go_at_call 25; exact Calls.quiet_of_same (node_any _ s.nd nb _ c0)))
      go_wp2
      exact bodyPost_ret (results_none rfl _ _ _) rfl ⟨rfl, by simpa using H4.out.only ((Only.refl (fun _ => False) _).drewN _) (fun _ _ h => h), O4.out.drewN _⟩
    · have hgr : nodeB s.nd fr = true ∧ s.gr fr ≠ s.gr dt := by
        rcases hd with h | h | h
        · exact absurd h hl
        · rw [h] at hn; cases hn
        · exact h
      obtain ⟨hn2, hne⟩ := hgr
      clear hl hl' hd
      have hne' : (s.gr fr != s.gr dt) = true := by simpa using hne
      go_quiet ((go_at_call 25; exact Calls.quiet_of_same (node_any _ s.nd nb _ c0)))
      go_wp2
      exact bodyPost_ret (results_none rfl _ _ _) rfl ⟨rfl, by simpa using H4.out.only ((Only.refl (fun _ => False) _).drewN _) (fun _ _ h => h), O4.out.drewN _⟩

end Go.Proofs.Ytmhkdpmcnaeaiaa
