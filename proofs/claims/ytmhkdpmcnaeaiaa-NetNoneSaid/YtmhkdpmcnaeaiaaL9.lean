/-
  NetNone: for every message, time and script the statement's function returns true, and what was there before stays as it was.
-/
import Derived.Test.YtmhkdpmcnaeaiaaTw
namespace Go.Proofs.Ytmhkdpmcnaeaiaa
open Go.RowKit Go.ChangeShapes Go.WideShapes Go.ChangeAt
set_option linter.unusedVariables false

def noZ : Nst := ⟨0, [], [], 0, fun _ => 0⟩
def noE (l : List Tr) : Nst := ⟨-3, scriptOf l, [], 0, fun _ => 0⟩
theorem node0 (k : Int) : nodeB 0 k = false := by unfold nodeB; rw [decide_eq_false_iff_not]; omega
theorem node3 (k : Int) : nodeB (-3) k = false := by unfold nodeB; rw [decide_eq_false_iff_not]; omega

set_option maxHeartbeats 2000000 in
theorem none_any (fr dt now : Int) (tx : ByteArray) (A : Option Addr) (c : Nat) (l : List Tr) (w : World) (hr : RdT w A l) (hm : l.length ≤ 9223372036854775807) (hd : ∀ t ∈ l, i64ok t.delay) :
    Calls Try.prog 9 #[.agg #[.int .i64 fr, .int .i64 dt, .string tx], .int .i64 now, .slice A l.length c] w fun r w' => r = .returned (.bool true) ∧ Only (fun _ => False) w w' := by
  have bx := At.new w 31 [.int .i64 fr, .int .i64 dt, .string tx]
  have o0 : Only (fun _ => False) w (w.alloc (.cells #[.int .i64 fr, .int .i64 dt, .string tx] 31)) := (Only.refl (fun _ => False) w).alloc _
  go_enter Try.func9, Try.ntmps9
  go_wp2_with fail
  refine (sanity_any _).mono ?_
  rintro r w1 ⟨rfl, o1⟩
  have o1' := o0.trans o1 (fun _ _ h => h)
  have b1 := bx.only o1 (fun h => h)
  have hlt := b1.lt
  have hr1 : RdT (w1.alloc (.cells #[.int .i64 0, .slice none 0 0, .slice none 0 0, .int .i64 0, .map none] 56)) A l := fun hl => by
    obtain ⟨b, off, e, hc⟩ := hr hl
    have ob := o1'.alloc (.cells #[.int .i64 0, .slice none 0 0, .slice none 0 0, .int .i64 0, .map none] 56)
    exact ⟨b, off, e, fun i hi => ⟨ob.cell (hc i hi).1 (fun h => h), ob.cell (hc i hi).2.1 (fun h => h), ob.cell (hc i hi).2.2 (fun h => h)⟩⟩
  have hz : NetB w1.heap.size (w1.alloc (.cells #[.int .i64 0, .slice none 0 0, .slice none 0 0, .int .i64 0, .map none] 56)) w1.heap.size noZ :=
    ⟨_, ⟨_, _, _, [], ⟨At.new w1 56 [.int .i64 0, .slice none 0 0, .slice none 0 0, .int .i64 0, .map none], Ow.nil _ _ _, Ow.nil _ _ _, List.Perm.refl _, fun k _ hk => absurd hk (by simp), .inl ⟨rfl, fun _ => rfl⟩⟩, rfl⟩, by
      rintro k (h | h | h | h)
      · omega
      · simp [Value.ownBlock] at h
      · simp [Value.ownBlock] at h
      · simp [mapBlock] at h⟩
  have O1 := hide o1'
  have B1 := hide b1
  have Z1 := hide hz
  have HR := hide hr1
  have HD := hide hd
  clear bx o0 o1 b1 o1' hz hr hr1 hd
  go_wp2_with fail
  refine (script_any A c l _ (unhide HR) hm (unhide HD)).mono ?_
  rintro r w2 ⟨sv, rfl, s2, o2, f2⟩
  have o2' : Only (fun _ => False) w1 w2 := ((Only.refl (fun _ => False) w1).alloc _).trans o2 (fun _ _ h => h)
  have z2 := (unhide Z1).keep o2
  have Z2 := hide z2
  have S2 := hide s2
  have hs2 : w1.heap.size ≤ w2.heap.size := o2'.size
  have O2 := hide o2'
  clear z2 s2 o2 f2 o2' Z1 HR HD
  go_wp2_with fail
  refine (new_B (B := w2.heap.size) (-3) sv (scriptOf l) (Nat.le_refl _) (unhide S2) (by have := scriptOf_len l; omega)).mono ?_
  rintro r w3 ⟨eb, rfl, n3, o3⟩
  have t3 : Two w1.heap.size w3 w1.heap.size noZ eb (noE l) := Two.mk (unhide Z2) o3 n3 hs2
  have o3' := (unhide O2).trans o3 (fun _ _ h => h)
  have b3 := (unhide B1).only o3' (fun h => h)
  have hs3 : w1.heap.size ≤ w3.heap.size := o3'.size
  have m0 := b3.cell (i := 0) rfl
  have m1 := b3.cell (i := 1) rfl
  have m2 := b3.cell (i := 2) rfl
  have T3 := hide t3
  have O3 := hide o3'
  have B3 := hide b3
  clear t3 o3' b3 n3 o3 O2 S2 Z2
  go_wp2_with fail
  refine (send_nil now fr dt tx w3).mono ?_
  rintro r w4 ⟨rfl, o4⟩
  have o4' := (unhide O3).trans o4 (fun _ _ h => h)
  have hs4 : w1.heap.size ≤ w4.heap.size := o4'.size
  have T4 := hide ((unhide T3).keep o4)
  have O4 := hide o4'
  clear o4' o4 T3 O3 m0 m1 m2
  go_wp2_with fail
  refine (part_nil _ _).mono ?_
  rintro r w5 ⟨rfl, rfl⟩
  have e5 : RdI ((w4.alloc (.cells #[.int .i64 1] 3)).alloc (.cells #[.int .i64 1] 3)) w1.heap.size (some ⟨w4.heap.size + 1, 0, none⟩) [1] := fun _ => ⟨_, rfl, by dsimp only; omega, fun j hj => by
    obtain rfl : j = 0 := by simp at hj; exact hj
    have := (At.new (w4.alloc (.cells #[.int .i64 1] 3)) 3 [.int .i64 1]).cell (i := 0) rfl
    simp only [World.size_alloc] at this
    rw [Addr.add_lit]
    exact this⟩
  have E5 := hide e5
  have T5 := hide ((unhide T4).keep (((Only.refl (fun _ => False) w4).alloc (.cells #[.int .i64 1] 3)).alloc (.cells #[.int .i64 1] 3)))
  clear e5 T4
  go_wp2_with fail
  refine (part_T (some ⟨w4.heap.size + 1, 0, none⟩) 1 [1] (unhide T5) (by simp; omega) (unhide E5) (by decide)).mono ?_
  rintro r w6 ⟨rfl, t6, k6⟩
  have k6' := ((Kept.of_empty (B := w1.heap.size) (unhide O4)).trans (Kept.of_empty (((Only.refl (fun _ => False) w4).alloc (.cells #[.int .i64 1] 3)).alloc (.cells #[.int .i64 1] 3)))).trans k6
  have hs6 : w1.heap.size ≤ w6.heap.size := k6'.only.size
  have b6 := k6'.at_ _ _ _ (unhide B1) (by decide) (by decide) (by decide)
  have m0 := b6.cell (i := 0) rfl
  have m1 := b6.cell (i := 1) rfl
  have m2 := b6.cell (i := 2) rfl
  have T6 := hide t6
  have K6 := hide k6'
  clear t6 k6 k6' b6 T5 E5
  go_wp2_with fail
  refine (send_T now fr dt tx (unhide T6) hs6 (by simp [noZ]) (by simp [noZ]) (.inl (.inr (.inl (node0 _))))).mono ?_
  rintro r w7 ⟨rfl, t7, k7⟩
  rw [send_dropped (.inr (.inl (node0 _)))] at t7
  have k7' := (unhide K6).trans k7
  have hs7 : w1.heap.size ≤ w7.heap.size := k7'.only.size
  have b7 := k7'.at_ _ _ _ (unhide B1) (by decide) (by decide) (by decide)
  have m0 := b7.cell (i := 0) rfl
  have m1 := b7.cell (i := 1) rfl
  have m2 := b7.cell (i := 2) rfl
  have T7 := hide t7.symm
  have K7 := hide k7'
  clear t7 k7 k7' b7 T6 K6
  go_wp2_with fail
  refine (send_T now fr dt tx (unhide T7) hs7 (by have := scriptOf_len l; simp [noE]; omega) (by simp [noE]) (.inl (.inr (.inl (node3 _))))).mono ?_
  rintro r w8 ⟨rfl, t8, k8⟩
  rw [send_dropped (.inr (.inl (node3 _)))] at t8
  have k8' := (unhide K7).trans k8
  have hs8 : w1.heap.size ≤ w8.heap.size := k8'.only.size
  have T8 := hide t8
  have K8 := hide k8'
  clear t8 k8 k8' T7 K7 m0 m1 m2
  go_wp2_with fail
  refine (next_nil w8).mono ?_
  rintro r w9 ⟨rfl, o9⟩
  have k9' := (unhide K8).trans (Kept.of_empty o9)
  have T9 := hide (((unhide T8).keep o9).keep ((Only.refl (fun _ => False) w9).alloc (.cells #[.int .i64 0, .int .i64 0, .string ⟨#[]⟩] 31)))
  have hs9 : w1.heap.size ≤ w9.heap.size := k9'.only.size
  have K9 := hide (k9'.trans (Kept.of_empty ((Only.refl (fun _ => False) w9).alloc (.cells #[.int .i64 0, .int .i64 0, .string ⟨#[]⟩] 31))))
  clear o9 k9' T8 K8
  go_wp2_with fail
  refine (nextT_empty (unhide T9).symm (by simp; omega) rfl).mono ?_
  rintro r w10 ⟨rfl, t10, k10⟩
  have k10' := (unhide K9).trans k10
  have hs10 : w1.heap.size ≤ w10.heap.size := k10'.only.size
  have T10 := hide (t10.symm.keep ((Only.refl (fun _ => False) w10).alloc (.cells #[.int .i64 0, .int .i64 0, .string ⟨#[]⟩] 31)))
  have K10 := hide (k10'.trans (Kept.of_empty ((Only.refl (fun _ => False) w10).alloc (.cells #[.int .i64 0, .int .i64 0, .string ⟨#[]⟩] 31))))
  clear t10 k10 k10' T9 K9
  go_wp2_with fail
  refine (nextT_empty (unhide T10) (by simp; omega) rfl).mono ?_
  rintro r w11 ⟨rfl, t11, k11⟩
  have k11' := (unhide K10).trans k11
  have T11 := hide (t11.keep ((Only.refl (fun _ => False) w11).alloc (.cells #[.int .i64 0, .int .i64 0, .string ⟨#[]⟩] 31)))
  have K11 := hide (k11'.trans (Kept.of_empty ((Only.refl (fun _ => False) w11).alloc (.cells #[.int .i64 0, .int .i64 0, .string ⟨#[]⟩] 31))))
  clear t11 k11 k11' T10 K10
  go_wp2_with fail
  refine (waiting_nil _).mono ?_
  rintro r w' ⟨rfl, rfl⟩
  go_wp2_with fail
  refine (waits_B 0 (unhide T11).symm.first rfl).mono ?_
  rintro r w' ⟨rfl, rfl⟩
  go_wp2_with fail
  refine (waits_B 0 (unhide T11).first rfl).mono ?_
  rintro r w' ⟨rfl, rfl⟩
  go_wp2_with fail
  go_ret
  exact ⟨rfl, (unhide O1).trans (unhide K11).empty (fun _ _ h => h)⟩

def ty9 : List Ty := [.st [.int .i64, .int .i64, .str], .int .i64, .sl trTy]
theorem walk9 (W : World) (vals : Ty.Vals ty9) (args : List Value) (h : ArgsHold W ty9 vals args) : Calls Try.prog 9 args.toArray W fun e W' => e = .returned (.bool true) ∧ Below W.heap.size W W' := by
  obtain ⟨⟨fr, dt, tx, _⟩, now, L, _⟩ := vals
  obtain ⟨c0, v0, r0, rfl, hm, h0, c1, v1, r1, rfl, ⟨rfl, wn⟩, h1, c2, v2, r2, rfl, hl, h2, rfl⟩ := h
  obtain rfl : Value.int .i64 now = v1 := by simpa [IsV] using h1
  obtain ⟨A, c, rfl, hr, hlen, hd⟩ := open_trs hl h2
  obtain rfl : v0 = .agg #[.int .i64 fr, .int .i64 dt, .string tx] := by
    simp only [Holds, HoldsAll, Ty.size] at hm
    obtain ⟨⟨g1, _⟩, ⟨g2, _⟩, ⟨g3, _⟩, g4⟩ := hm
    have e : c0 = [.int .i64 fr, .int .i64 dt, .string tx] := by
      match c0, g1, g2, g3, g4 with
      | [a, b, c], g1, g2, g3, g4 => simp at g1 g2 g3; rw [g1, g2, g3]
      | [], g1, _, _, _ => simp at g1
      | [a], _, g2, _, _ => simp at g2
      | [a, b], _, _, g3, _ => simp at g3
      | a :: b :: c :: d :: e, _, _, _, g4 => simp at g4
    rw [e] at h0
    exact h0
  exact (none_any fr dt now tx A c _ W hr hlen hd).mono fun r W' ⟨h1, h2⟩ => ⟨h1, h2.below (fun _ h => h.elim) (Nat.le_refl _)⟩

set_option maxRecDepth 100000 in
theorem netNone_holds : Rows.NetNoneSaid :=
  OpenClaim.holds_of_wide 9 Try.f9 rfl rfl rfl rfl rfl rfl rfl ⟨rfl, rfl, rfl, rfl, rfl⟩ rfl rfl rfl rfl rfl (by kernel_rfl) Try.func9 (by kernel_rfl)
    (of_decide_eq_true (by kernel_rfl)) (by unfold Func.isWrapper; first | (rw [if_pos (by decide +kernel)]; kernel_rfl) | (rw [if_neg (by decide +kernel)]; exact ⟨rfl, rfl⟩))
    (fun os started H enc _ => law_lifted 9 Try.f9 Rows.netNoneSpec _ ty9 4 os started H enc Try.func9 (by kernel_rfl) rfl rfl Try.underlying4 (by kernel_rfl) (by kernel_rfl)
      (fun ds h => by match ds, h with | [_, _, _], _ => rfl)
      (ChangeSpec.witness6 (enc := enc) (C := Try.checked) false ⟨#[], #[.agg #[.int .i64 0, .int .i64 0, .string ⟨#[]⟩], .int .i64 0, .slice none 0 0], []⟩ 8 (by kernel_rfl) (by kernel_rfl) (by kernel_rfl) (by kernel_rfl)) walk9)

end Go.Proofs.Ytmhkdpmcnaeaiaa
