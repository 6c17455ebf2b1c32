/-
  NetOvertakes: for every two times and two delays the statement's function returns true, and what was there before stays as it was.
-/
import Derived.Test.YtmhkdpmcnaeaiaaSb
import Derived.Test.YtmhkdpmcnaeaiaaLw
namespace Go.Proofs.Ytmhkdpmcnaeaiaa
open Go.RowKit Go.ChangeShapes Go.WideShapes Go.ChangeAt
set_option linter.unusedVariables false

def ovScript (d e : Int) : List Tr := [⟨false, 0, d⟩, ⟨false, 0, e⟩]
def ov0 (d e : Int) : Nst := ⟨1, ovScript d e, [], 0, fun _ => 0⟩
def ovP (x : Int) : Pc := ⟨1, 0, ⟨#[]⟩, x, 0⟩
def ovQ (y : Int) : Pc := ⟨2, 0, ⟨#[]⟩, y, 1⟩
theorem send_kept {s : Nst} {now fr dt : Int} {tx : ByteArray} (h : ¬ s.drops fr dt) : s.send now fr dt tx = { s with sn := s.sn + 1, ws := s.ws ++ s.parcels now fr dt tx } := if_neg h
theorem send_dropped {s : Nst} {now fr dt : Int} {tx : ByteArray} (h : s.drops fr dt) : s.send now fr dt tx = { s with sn := s.sn + 1 } := if_pos h
theorem parcels_one (s : Nst) (now fr dt : Int) (tx : ByteArray) (h : s.next.copies ≤ 1) : s.parcels now fr dt tx = [⟨fr, dt, tx, now + max s.next.delay 0, s.sn⟩] := by
  have e : s.next.many = 1 := by unfold Tr.many; omega
  unfold Nst.parcels
  rw [e]
  simp
theorem ov1_no (d e : Int) : ¬ (ov0 d e).drops 1 0 := by
  have h : (ov0 d e).next = ⟨false, 0, d⟩ := rfl
  unfold Nst.drops
  rw [h]; simp [ov0, nodeB]
theorem ov1 (a d e : Int) (hd : 0 ≤ d) : (ov0 d e).send a 1 0 ⟨#[]⟩ = { ov0 d e with sn := 1, ws := [ovP (a + d)] } := by
  have h : (ov0 d e).next = ⟨false, 0, d⟩ := rfl
  have hm : max d 0 = d := by omega
  rw [send_kept (ov1_no d e), parcels_one _ _ _ _ _ (by rw [h]; simp), h, hm]
  rfl
def ovS (a d e : Int) : Nst := { ov0 d e with sn := 1, ws := [ovP (a + d)] }
theorem ovS_next (a d e : Int) : (ovS a d e).next = ⟨false, 0, e⟩ := rfl
theorem ov2_no (a d e : Int) : ¬ (ovS a d e).drops 2 0 := by
  unfold Nst.drops
  rw [ovS_next]; simp [ovS, ov0, nodeB]
theorem ov2 (a b d e : Int) (he : 0 ≤ e) : (ovS a d e).send b 2 0 ⟨#[]⟩ = { ov0 d e with sn := 2, ws := [ovP (a + d), ovQ (b + e)] } := by
  have h := ovS_next a d e
  have hm : max e 0 = e := by omega
  rw [send_kept (ov2_no a d e), parcels_one _ _ _ _ _ (by rw [h]; simp), h, hm]
  rfl

set_option maxHeartbeats 2000000 in
theorem overtakes_any (a b d e : Int) (ha : 0 ≤ a) (ha' : a ≤ 65535) (hb : 0 ≤ b) (hb' : b ≤ 65535) (hd : 0 ≤ d) (hd' : d ≤ 65535) (he : 0 ≤ e) (he' : e ≤ 65535) (w : World) :
    Calls Try.prog 7 #[.int .u16 a, .int .u16 b, .agg #[.int .u16 d, .int .u16 e]] w fun r w' => r = .returned (.bool true) ∧ Only (fun _ => False) w w' := by
  have bx := At.new w 49 [.int .u16 d, .int .u16 e]
  have o0 : Only (fun _ => False) w (w.alloc (.cells #[.int .u16 d, .int .u16 e] 49)) := (Only.refl (fun _ => False) w).alloc _
  go_enter Try.func7, Try.ntmps7
  go_wp2_with fail
  refine (sanity_any _).mono ?_
  rintro r w1 ⟨rfl, o1⟩
  have b1 := bx.only o1 (fun h => h)
  have o1' := o0.trans o1 (fun _ _ h => h)
  have c0 := b1.cell (i := 0) rfl
  have c1 := b1.cell (i := 1) rfl
  have hlt := b1.lt
  have O1 := hide o1'
  have B1 := hide b1
  clear bx o0 o1 b1 o1'
  go_wp2_with fail
  have hw0 : Ow (w1.alloc (.cells #[.bool false, .int .i64 0, .int .i64 d, .bool false, .int .i64 0, .int .i64 e] 44)) 44 3 (.slice (some ⟨w1.heap.size, 0, none⟩) 2 2) (ovScript d e).length ((ovScript d e).flatMap Tr.cells) :=
    Ow.mk (sp := []) (At.new w1 44 [.bool false, .int .i64 0, .int .i64 d, .bool false, .int .i64 0, .int .i64 e]) rfl (Nat.le_refl _) (by simp [maxLen]) rfl
  have hs1 : w.heap.size ≤ w1.heap.size := (unhide O1).size
  refine (new_B (B := w1.heap.size) 1 _ (ovScript d e) (by simp) hw0 (by simp [ovScript])).mono ?_
  rintro r w2 ⟨nb, rfl, n2, o2⟩
  have o2' : Only (fun _ => False) w1 w2 := ((Only.refl (fun _ => False) w1).alloc _).trans o2 (fun _ _ h => h)
  have hs2 : w1.heap.size ≤ w2.heap.size := o2'.size
  have K2 := hide (Kept.of_empty (B := w1.heap.size) o2')
  have N2 := hide (show NetB _ _ nb (ov0 d e) from n2)
  clear n2 o2 o2' hw0
  go_wp2_with fail
  refine (send_B a 1 0 ⟨#[]⟩ (unhide N2) hs2 (by simp [ov0, ovScript]) (by simp [ov0]) (.inr ⟨by omega, by omega, (show d ≤ 1000000000000 by omega), by simp [ov0]⟩)).mono ?_
  rintro r w3 ⟨rfl, n3, k3⟩
  rw [ov1 a d e hd] at n3
  have hs3 : w1.heap.size ≤ w3.heap.size := ((unhide K2).trans k3).only.size
  have N3 := hide (show NetB _ _ nb (ovS a d e) from n3)
  have K3 := hide ((unhide K2).trans k3)
  clear n3 k3 N2 K2
  go_wp2_with fail
  refine (send_B b 2 0 ⟨#[]⟩ (unhide N3) hs3 (by simp [ovS, ov0, ovScript]) (by simp [ovS, ov0]) (.inr ⟨by omega, by omega, (show e ≤ 1000000000000 by omega), by simp [ovS, ov0]⟩)).mono ?_
  rintro r w4 ⟨rfl, n4, k4⟩
  rw [ov2 a b d e he] at n4
  have hs4 : w1.heap.size ≤ w4.heap.size := ((unhide K3).trans k4).only.size
  have N4 := hide n4
  have K4 := hide ((unhide K3).trans k4)
  clear n4 k4 N3 K3
  have hs0 : w.heap.size < w1.heap.size := hlt
  by_cases hlt2 : b + e < a + d
  · have h5 := hide ((unhide N4).reorder (List.Perm.swap _ _ _))
    go_wp2_with fail
    refine (next_sorted (unhide h5) hs4 (by simp) (ovQ (b + e)) [ovP (a + d)] rfl (by intro q hq; simp only [List.mem_singleton] at hq; subst hq; rw [lt_iff]; simp only [ovP, ovQ]; omega)).mono ?_
    rintro r w5 ⟨rfl, n5, k5⟩
    have hs5 : w1.heap.size ≤ w5.heap.size := Nat.le_trans hs4 k5.only.size
    have b5 := ((unhide K4).trans k5).at_ _ _ _ (unhide B1) (by decide) (by decide) (by decide)
    have d0 := b5.cell (i := 0) rfl
    have d1 := b5.cell (i := 1) rfl
    have K5 := hide ((unhide K4).trans k5)
    clear n5 k5 K4 N4 h5 b5 B1 c0 c1
    have hmin : min (a + d) (b + e) = b + e := by omega
    have hs0' : w.heap.size < w5.heap.size := by omega
    dsimp only [ovQ]
    go_wp2_with fail
    go_quiet (fail)
    go_wp2_with fail
    go_ret
    exact ⟨rfl, (((unhide O1).trans (unhide K5).empty (fun _ _ h => h)).alloc _).drewN _⟩
  · go_wp2_with fail
    refine (next_sorted (unhide N4) hs4 (by simp) (ovP (a + d)) [ovQ (b + e)] rfl (by intro q hq; simp only [List.mem_singleton] at hq; subst hq; rw [lt_iff]; simp only [ovP, ovQ]; omega)).mono ?_
    rintro r w5 ⟨rfl, n5, k5⟩
    have hs5 : w1.heap.size ≤ w5.heap.size := Nat.le_trans hs4 k5.only.size
    have b5 := ((unhide K4).trans k5).at_ _ _ _ (unhide B1) (by decide) (by decide) (by decide)
    have d0 := b5.cell (i := 0) rfl
    have d1 := b5.cell (i := 1) rfl
    have K5 := hide ((unhide K4).trans k5)
    clear n5 k5 K4 N4 b5 B1 c0 c1
    have hmin : min (a + d) (b + e) = a + d := by omega
    have hs0' : w.heap.size < w5.heap.size := by omega
    dsimp only [ovP]
    go_wp2_with fail
    go_quiet (fail)
    go_wp2_with fail
    go_ret
    exact ⟨rfl, (((unhide O1).trans (unhide K5).empty (fun _ _ h => h)).alloc _).drewN _⟩


theorem u16_bd {n : Int} (h : (Lit.int .u16 n).wf = true) : 0 ≤ n ∧ n ≤ 65535 := by simpa [Lit.wf, IntKind.min, IntKind.max, IntKind.signed, IntKind.bits] using h

def ty7 : List Ty := [.int .u16, .int .u16, .arr 2 (.int .u16)]
theorem walk7 (W : World) (vals : Ty.Vals ty7) (args : List Value) (h : ArgsHold W ty7 vals args) : Calls Try.prog 7 args.toArray W fun e W' => e = .returned (.bool true) ∧ Below W.heap.size W W' := by
  obtain ⟨a, b, l, _⟩ := vals
  obtain ⟨c0, v0, r0, rfl, ⟨rfl, wa⟩, h0, c1, v1, r1, rfl, ⟨rfl, wb⟩, h1, c2, v2, r2, rfl, ⟨hl, hs, hh⟩, h2, rfl⟩ := h
  obtain rfl : Value.int .u16 a = v0 := by simpa [IsV] using h0
  obtain rfl : Value.int .u16 b = v1 := by simpa [IsV] using h1
  obtain ⟨d, e, rfl⟩ : ∃ d e : Int, l = [d, e] := by
    match l, hl with
    | [d, e], _ => exact ⟨d, e, rfl⟩
  obtain ⟨x, y, rfl⟩ : ∃ x y, c2 = [x, y] := by
    match c2, hs with
    | [x, y], _ => exact ⟨x, y, rfl⟩
  obtain ⟨hd, wd⟩ := hh 0 d rfl
  obtain ⟨he, we⟩ := hh 1 e rfl
  obtain rfl : x = .int .u16 d := by simpa [Ty.size] using hd
  obtain rfl : y = .int .u16 e := by simpa [Ty.size] using he
  obtain rfl : v2 = .agg #[.int .u16 d, .int .u16 e] := h2
  have ba := u16_bd wa
  have bb := u16_bd wb
  have bd := u16_bd wd
  have be := u16_bd we
  exact (overtakes_any a b d e ba.1 ba.2 bb.1 bb.2 bd.1 bd.2 be.1 be.2 W).mono fun r W' ⟨h1, h2⟩ => ⟨h1, h2.below (fun _ h => h.elim) (Nat.le_refl _)⟩

set_option maxRecDepth 100000 in
theorem netOvertakes_holds : Rows.NetOvertakesSaid :=
  OpenClaim.holds_of_wide 7 Try.f7 rfl rfl rfl rfl rfl rfl rfl ⟨rfl, rfl, rfl, rfl, rfl⟩ rfl rfl rfl rfl rfl (by kernel_rfl) Try.func7 (by kernel_rfl)
    (of_decide_eq_true (by kernel_rfl)) (by unfold Func.isWrapper; first | (rw [if_pos (by decide +kernel)]; kernel_rfl) | (rw [if_neg (by decide +kernel)]; exact ⟨rfl, rfl⟩))
    (fun os started H enc _ => law_lifted 7 Try.f7 Rows.netOvertakesSpec _ ty7 4 os started H enc Try.func7 (by kernel_rfl) rfl rfl Try.underlying4 (by kernel_rfl) (by kernel_rfl)
      (fun ds h => by match ds, h with | [_, _, _], _ => rfl)
      (ChangeSpec.witness6 (enc := enc) (C := Try.checked) false ⟨#[], #[.int .u16 0, .int .u16 0, .agg #[.int .u16 0, .int .u16 0]], []⟩ 8 (by kernel_rfl) (by kernel_rfl) (by kernel_rfl) (by kernel_rfl)) walk7)

end Go.Proofs.Ytmhkdpmcnaeaiaa
