/-
  Package net's New, Next and Waiting, by their contracts.
-/
import Derived.Test.YtmhkdpmcnaeaiaaNx
namespace Go.Proofs.Ytmhkdpmcnaeaiaa
open Go.RowKit
set_option linter.unusedVariables false

theorem Try.info44 : (Try.prog.info? 44).map (fun i => (i.zero, i.size, i.bytes)) = some (some (.agg #[.bool false, .int .i64 0, .int .i64 0]), 3, 24) := by kernel_rfl

theorem oneCell_tr (l : List Tr) : ∀ u ∈ l.flatMap Tr.cells, u.oneCell' = true := by
  intro u hu
  simp only [List.mem_flatMap, Tr.cells, List.mem_cons, List.not_mem_nil, or_false] at hu
  obtain ⟨t, _, h⟩ := hu
  rcases h with rfl | rfl | rfl <;> rfl

/-- a slice of l, in new memory -/
def Fresh (e : TypeId) (size n : Nat) (xs : List Value) (w : World) (r : Ending) (w' : World) : Prop :=
  ∃ v', r = .returned v' ∧ Ow w' e size v' n xs ∧ Only (fun _ => False) w w' ∧ ∀ k, v'.ownBlock = some k → w.heap.size ≤ k

set_option maxHeartbeats 400000 in
theorem clone_any (sv : Value) (l : List Tr) (w : World) (h : Ow w 44 3 sv l.length (l.flatMap Tr.cells)) (hl : l.length ≤ 1000000) :
    Calls Try.prog 23 #[sv] w fun e w' => Fresh 44 3 l.length (l.flatMap Tr.cells) w e w' := by
  have en := @Lib.run_eql_slice_nil Try.prog
  rcases h.form with ⟨rfl, h0, h1⟩ | ⟨g, cap, sp, rfl, h2, h3, h4, h5⟩
  · rw [h1, h0]
    go_enter Try.func23, Try.ntmps23
    go_wp2
    go_ret
    exact ⟨_, rfl, Ow.nil _ _ _, Only.refl _ _, fun k hk => by simp [Value.ownBlock] at hk⟩
  · have hown : Ow (w.alloc (.cells #[] 44)) 44 3 (.slice (some ⟨w.heap.size, 0, none⟩) 0 0) 0 [] := Ow.mk (sp := []) (At.new w 44 []) rfl (Nat.le_refl _) (Nat.zero_le _) rfl
    have h2' := (h2.alloc (.cells #[] 44)).news
    have H1 := Lib.hid hown
    have H2 := Lib.hid h2'
    have H3 := Lib.hid h.len
    obtain ⟨i0, hi0, hz0, hz1, hz2⟩ := info_parts Try.info44
    clear h2' hown
    go_enter Try.func23, Try.ntmps23
    go_wp2_with (at_builtin; refine wpl_app rfl (.tmp 5) (.tmp 6) 22 rfl 44 i0 _ 3 24 Try.underlying22 hi0 hz0 hz1 hz2 rfl (by decide) (.slice (some ⟨w.heap.size, 0, none⟩) 0 0) 0 [] rfl H1.out ⟨g, 0, none⟩ l.length cap _ rfl H3.out H2.out (oneCell_tr l) (by unfold maxLen; omega) (by omega) ?_; intro v1 w1 ho1 hg1 hat1 _)
    go_ret
    refine ⟨_, rfl, by simpa using ho1, ((Only.refl (fun _ => False) w).alloc (.cells #[] 44)).grown hg1 (fun k hk hlt => ?_), fun k hk => ?_⟩
    · simp [Value.ownBlock] at hk
      omega
    · change v1.ownBlock = some k at hk
      rcases hat1 with e | e <;> rw [e] at hk <;> simp [Value.ownBlock] at hk <;> omega

/-- a new net -/
def NewNet (s : Nst) (w : World) (r : Ending) (w' : World) : Prop :=
  ∃ nb F, r = .returned (.pointer (some ⟨nb, 0, none⟩)) ∧ NetIs w' nb s F ∧ Only (fun _ => False) w w' ∧ ∀ k, F k → w.heap.size ≤ k

set_option maxHeartbeats 400000 in
theorem new_any (nd : Int) (sv : Value) (l : List Tr) (w : World) (h : Ow w 44 3 sv l.length (l.flatMap Tr.cells)) (hl : l.length ≤ 1000000) :
    Calls Try.prog 13 #[.int .i64 nd, sv] w fun e w' => NewNet ⟨nd, l, [], 0, fun _ => 0⟩ w e w' := by
  go_enter Try.func13, Try.ntmps13
  go_wp2_with fail
  refine (clone_any sv l w h hl).mono ?_
  rintro e w1 ⟨v', rfl, h1, h2, h3⟩
  obtain ⟨A, c, rfl⟩ := h1.shape
  have H1 := Lib.hid h1
  have H2 := Lib.hid h2
  have H3 := Lib.hid h3
  clear h1 h2 h3
  go_wp2_with fail
  go_ret
  have hb := (Only.refl (fun _ => False) w1).alloc (.cells #[.int .i64 nd, .slice A l.length c, .slice none 0 0, .int .i64 0, .map none] 56)
  refine ⟨w1.heap.size, _, rfl, ⟨_, _, _, [], ⟨At.new w1 56 [.int .i64 nd, .slice A l.length c, .slice none 0 0, .int .i64 0, .map none], H1.out.only hb (fun _ _ h => h), Ow.nil _ _ _, List.Perm.refl _, fun k _ hk => absurd hk (by simp), .inl ⟨rfl, fun _ => rfl⟩⟩, rfl⟩, H2.out.trans hb (fun _ _ h => h), ?_⟩
  rintro k (h | h | h | h)
  · have := H2.out.size; omega
  · exact H3.out k h
  · simp [Value.ownBlock] at h
  · simp [mapBlock] at h

/-- the next copy of a net: it is taken out -/
def NextOf (nb : Nat) (s : Nst) (F : Nat → Prop) (w : World) (r : Ending) (w' : World) : Prop :=
  (s.ws = [] ∧ r = .returned (.tuple #[.agg #[.int .i64 0, .int .i64 0, .string ⟨#[]⟩], .int .i64 0, .bool false]) ∧ Turned nb s F w w') ∨
  ∃ p, p ∈ s.ws ∧ (∀ q ∈ s.ws, lt q p = false) ∧ r = .returned (.tuple #[.agg #[.int .i64 p.fr, .int .i64 p.ds, .string p.tx], .int .i64 p.tm, .bool true]) ∧
    ∀ ws', s.ws.Perm (p :: ws') → Turned nb { s with ws := ws' } F w w'

theorem NetP.ne_at {w : World} {nb g : Nat} {s : Nst} {sv wv gv : Value} {l : List Pc} {t : TypeId} {cs : List Value} (h : NetP w nb s sv wv gv l) (ha : At w g t cs) (h1 : 56 ≠ t) (h2 : 44 ≠ t) (h3 : 75 ≠ t) : ∀ k, foot nb sv wv gv k → k ≠ g := by
  rintro k (rfl | e | e | e) rfl
  · exact h.fields.ne ha h1 rfl
  · exact h.script.ne_at ha h2 e
  · exact h.wait.ne_at ha h3 e
  · exact h.groups.ne_at ha e

theorem next_step (nb : Nat) (cm : List Value) (s : Nst) (sv wv wv' gv : Value) (l l' : List Pc) (p : Pc) (w w0 w1 : World) (h : NetP w0 nb s sv wv gv l) (o : Only (fun _ => False) w w0)
    (g1 : At w1 nb 56 ([.int .i64 s.nd, sv, wv, .int .i64 (s.sn : Int), gv].set 2 wv')) (g2 : Ow w1 75 5 wv' l'.length (l'.flatMap Pc.cells)) (g3 : l.Perm (p :: l')) (g4 : Heap l' l'.length)
    (g5 : Only (fun k => k = nb ∨ wv.ownBlock = some k) w0 w1) (g6 : wv'.ownBlock = wv.ownBlock) (bm : At w1 w.heap.size 31 cm) (w2 : World) (o2 : Only (· = w.heap.size) w1 w2) : ∀ ws', s.ws.Perm (p :: ws') → Turned nb { s with ws := ws' } (foot nb sv wv gv) w w2 := by
  intro ws' hp
  have hP : NetP w1 nb { s with ws := ws' } sv wv' gv l' := by
    refine ⟨g1, ?_, g2, ?_, g4, ?_⟩
    · refine Ow.only h.script g5 fun k hk => ?_
      rintro (rfl | e)
      · exact h.script.ne_at h.fields (by decide) hk
      · exact h.wait.ne_ow h.script (by decide) hk e
    · exact List.Perm.cons_inv (g3.symm.trans (h.perm.trans hp))
    · refine MapG.only h.groups g5 fun k hk => ?_
      rintro (rfl | e)
      · exact h.groups.ne_at h.fields hk
      · exact h.groups.ne_ow h.wait e hk
  refine ⟨_, ⟨sv, wv', gv, l', hP.only o2 (fun k hk => hP.ne_at bm (by decide) (by decide) (by decide) k hk), rfl⟩, ?_, ?_⟩
  · refine ((o.mono (fun _ _ h => h.elim)).trans g5 fun i _ h => h.elim Or.inl fun h => Or.inr (Or.inr (Or.inl h))).trans o2 (fun i hi e => by omega)
  · intro k hk
    exact foot_turn (.inl g6) k hk

set_option maxHeartbeats 400000 in
theorem next_any (nb : Nat) (s : Nst) (F : Nat → Prop) (w : World) (h : NetIs w nb s F) (hm : s.ws.length < 1000000) :
    Calls Try.prog 19 #[.pointer (some ⟨nb, 0, none⟩)] w fun e w' => NextOf nb s F w e w' := by
  obtain ⟨sv, wv, gv, l, h, rfl⟩ := h
  have hll := h.perm.length_eq
  have o1 := (Only.refl (fun _ => False) w).alloc (.cells #[.int .i64 0, .int .i64 0, .string ⟨#[]⟩] 31)
  have h1 := h.only o1 (fun _ _ h => h)
  obtain ⟨A, c, rfl⟩ := h.wait.shape
  have c2 := h1.fields.cell (i := 2) rfl
  have ml := m_len c2
  by_cases h0 : l.length = 0
  · rw [h0] at ml c2
    have e0 : s.ws = [] := List.eq_nil_of_length_eq_zero (by omega)
    have H0 := Lib.hid h0
    have HL := Lib.hid hll
    have H1 := Lib.hid h1
    have O1 := Lib.hid o1
    have E0 := Lib.hid e0
    clear h0 hll o1 h1 e0
    go_enter Try.func19, Try.ntmps19
    go_wp2_with (first | (go_at_call 27; refine (queue_any _ _).mono ?_; rintro e w' ⟨rfl, rfl⟩) | (go_at_call 48; refine (len_any _ _ _ _).mono ?_; rintro e w' ⟨rfl, rfl⟩))
    refine bodyPost_ret (v := .tuple #[.agg #[.int .i64 0, .int .i64 0, .string ⟨#[]⟩], .int .i64 0, .bool false]) (by simp [results, Try.results19, go_sem]) rfl (Or.inl ⟨E0.out, rfl, _, ⟨sv, _, gv, l, H1.out, rfl⟩, O1.out.mono (fun _ _ h => h.elim), fun k hk => Or.inl hk⟩)
  · have mp := m_pop
    have hx : ((l.length : Int) == 0) = false := by rw [beq_eq_false_iff_ne]; omega
    have H1 := Lib.hid h1
    have O1 := Lib.hid o1
    have HL := Lib.hid hll
    have hta := ta75
    have hlt := h.fields.lt
    have hlm : l.length < 1000000 := by omega
    clear hll h1 o1
    go_enter Try.func19, Try.ntmps19
    go_wp2_with (first | (go_at_call 27; refine (queue_any _ _).mono ?_; rintro e w' ⟨rfl, rfl⟩) | (go_at_call 48; refine (len_any _ _ _ _).mono ?_; rintro e w' ⟨rfl, rfl⟩))
    refine (hpop_any nb _ _ l _ H1.out.fields rfl H1.out.wait hlm (by omega) h.heap).mono ?_
    rintro e w1 ⟨rfl, wv', l', g1, g2, g3, g4, g5, g6⟩
    have hsz := g5.size
    simp only [World.size_alloc] at hsz
    have hlt1 : w.heap.size < w1.heap.size := by omega
    have bm := Lib.hid ((At.new w 31 [.int .i64 0, .int .i64 0, .string ⟨#[]⟩]).only g5 (by
      rintro (e | e)
      · omega
      · have := h.wait.lt _ e; omega))
    have hT := Lib.hid (next_step nb _ s sv (.slice A l.length c) wv' gv l l' (el l 0) w _ w1 H1.out O1.out g1 g2 g3 g4 g5 g6 bm.out)
    have m0 := bm.out.cell (i := 0) rfl
    have m1 := bm.out.cell (i := 1) rfl
    have m2 := bm.out.cell (i := 2) rfl
    have f0 := bm.out.frozen
    have hmin : ∀ q ∈ s.ws, lt q (el l 0) = false := fun q hq => by
      have hq' := h.perm.mem_iff.2 hq
      obtain ⟨i, hi, rfl⟩ := List.getElem_of_mem hq'
      rw [← el_eq hi]
      exact heap_min h.heap i hi
    have hmem : el l 0 ∈ s.ws := h.perm.mem_iff.1 (el_mem (by omega))
    have HM := Lib.hid hmin
    clear hmin g1 g2 g3 g4 g5 g6
    generalize el l 0 = p at *
    obtain ⟨p0, p1, p2, p3, p4⟩ := p
    dsimp only
    go_wp2_with fail
    go_region
    go_wp2_with fail
    have q := ((((bm.out.put 0 (.int .i64 p0)).put 1 (.int .i64 p1)).put 2 (.string p2)).alloc (.cells #[.int .i64 p0, .int .i64 p1, .string p2, .int .i64 p3, .int .i64 p4] 75))
    have q0 := q.cell (i := 0) rfl
    have q1 := q.cell (i := 1) rfl
    have q2 := q.cell (i := 2) rfl
    refine bodyPost_ret (v := .tuple #[.agg #[.int .i64 p0, .int .i64 p1, .string p2], .int .i64 p3, .bool true]) (by simp [results, Try.results19, go_sem, q0, q1, q2]) rfl (Or.inr ⟨_, hmem, HM.out, rfl, hT.out _ ?_⟩)
    exact (((((Only.refl (· = w.heap.size) w1).put (p := ⟨w.heap.size, 0, none⟩) (fun _ => rfl) _).put (p := ⟨w.heap.size, 1, none⟩) (fun _ => rfl) _).put (p := ⟨w.heap.size, 2, none⟩) (fun _ => rfl) _).alloc _).drew

end Go.Proofs.Ytmhkdpmcnaeaiaa
