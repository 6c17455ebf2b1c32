/-
  Package net's Push and Pop of the list of waiting copies, each by its contract.
-/
import Derived.Test.YtmhkdpmcnaeaiaaHp
namespace Go.Proofs.Ytmhkdpmcnaeaiaa
open Go.RowKit
set_option linter.unusedVariables false

theorem Try.info75 : (Try.prog.info? 75).map (fun i => (i.zero, i.size, i.bytes)) = some (some (.agg #[.int .i64 0, .int .i64 0, .string ⟨#[]⟩, .int .i64 0, .int .i64 0]), 5, 48) := by kernel_rfl
theorem ta75 (x : Value) (w : World) : (Instr.typeAssert (.iface 75 x) 20 75 true).run Try.prog w = .ok (.tuple #[x, .bool true]) w := by kernel_rfl

set_option maxHeartbeats 1000000 in
theorem push_any (nb : Nat) (cs : List Value) (wv : Value) (l : List Pc) (p : Pc) (w : World) (hnb : At w nb 56 cs) (hwv : cs[2]? = some wv) (how : Ow w 75 5 wv l.length (l.flatMap Pc.cells)) (hl : l.length ≤ 1000000) :
    Calls Try.prog 52 #[.pointer (some ⟨nb, 2, none⟩), .iface 75 (.agg #[.int .i64 p.fr, .int .i64 p.ds, .string p.tx, .int .i64 p.tm, .int .i64 p.sn])] w fun e w' => e = .returned (.tuple #[]) ∧ ∃ wv', At w' nb 56 (cs.set 2 wv') ∧ Ow w' 75 5 wv' (l.length + 1) ((l ++ [p]).flatMap Pc.cells) ∧
      Only (fun k => k = nb ∨ wv.ownBlock = some k) w w' ∧ (wv'.ownBlock = wv.ownBlock ∨ ∃ k, w.heap.size ≤ k ∧ wv'.ownBlock = some k) := by
  obtain ⟨p0, p1, p2, p3, p4⟩ := p
  have hc2 := hnb.cell hwv
  have hf2 := hnb.frozen 2
  have hta := ta75
  obtain ⟨i0, hi0, hz0, hz1, hz2⟩ := info_parts Try.info75
  obtain ⟨A, c, hwv'⟩ := how.shape
  subst hwv'
  have hne := how.ne_at hnb (by decide)
  dsimp only
  have hb : Only (fun _ => False) w ((w.alloc (.cells #[.int .i64 p0, .int .i64 p1, .string p2, .int .i64 p3, .int .i64 p4] 75)).alloc (.cells #[.int .i64 p0, .int .i64 p1, .string p2, .int .i64 p3, .int .i64 p4] 75)).drew := (((Only.refl _ w).alloc _).alloc _).drew
  have how1 := how.only hb (fun _ _ h => h)
  have hnb1 := hnb.only hb (fun h => h)
  have hnews := (At.new (w.alloc (.cells #[.int .i64 p0, .int .i64 p1, .string p2, .int .i64 p3, .int .i64 p4] 75)) 75 [.int .i64 p0, .int .i64 p1, .string p2, .int .i64 p3, .int .i64 p4]).drew
  simp only [World.size_alloc] at hnews
  have hnews' : ∀ j u, ([.int .i64 p0, .int .i64 p1, .string p2, .int .i64 p3, .int .i64 p4] : List Value)[j]? = some u → ((w.alloc (.cells #[.int .i64 p0, .int .i64 p1, .string p2, .int .i64 p3, .int .i64 p4] 75)).alloc (.cells #[.int .i64 p0, .int .i64 p1, .string p2, .int .i64 p3, .int .i64 p4] 75)).drew.cell? ((⟨w.heap.size + 1, 0, none⟩ : Addr).add j) = some u :=
    fun j u hj => by rw [Addr.add_lit]; simpa using hnews.cell hj
  have hlt := hnb.lt
  have h1c : ∀ u ∈ ([.int .i64 p0, .int .i64 p1, .string p2, .int .i64 p3, .int .i64 p4] : List Value), u.oneCell' = true := by
    intro u hu
    simp only [List.mem_cons, List.not_mem_nil, or_false] at hu
    rcases hu with rfl | rfl | rfl | rfl | rfl <;> rfl
  have H6 := Lib.hid h1c
  clear h1c
  have H1 := Lib.hid how1
  have H2 := Lib.hid hnb1
  have H3 := Lib.hid hnews'
  have H4 := Lib.hid hb
  have H5 := Lib.hid hne
  clear how1 hnb1 hnews hnews' hb hne
  go_enter Try.func52, Try.ntmps52
  go_wp2_with fail
  go_region_law (first | (refine step_app rfl (.tmp 15) (.tmp 17) 53 rfl 75 i0 _ 5 48 Try.underlying53 hi0 hz0 hz1 hz2 rfl (by decide) (.slice A l.length c) l.length (l.flatMap Pc.cells) (by simp [Act.eval]) H1.out ⟨w.heap.size + 1, 0, none⟩ 1 1 _ (by simp [Act.eval]) rfl H3.out H6.out (by unfold maxLen; omega) (by omega) ?_; intro v1 w1 ho1 hg1 hat1 _; obtain ⟨A1, c1, hv1⟩ := ho1.shape; subst hv1; have G0 := H2.out.grown hg1 H5.out; have G1 := G0.cell hwv; have G2 := G0.frozen 2; have G3 := Lib.hid G0; have G4 := Lib.hid ho1; have G5 := Lib.hid hg1; have G6 := Lib.hid hat1; clear G0 ho1 hg1 hat1))
  all_goals
    go_end0
    refine ⟨rfl, _, G3.out.put 2 _, ?_, ?_, ?_⟩
    · have h := (G4.out.only (Only.put (Only.refl (fun k => k = nb) w1) (p := ⟨nb, 2, none⟩) (fun _ => rfl) (.slice A1 (l.length + 1) c1)) (fun k hk e => by subst e; exact G4.out.ne_at G3.out (by decide) hk))
      simpa [Pc.cells] using h
    · refine Only.put (S := fun k => k = nb ∨ (Value.slice A l.length c).ownBlock = some k) (p := ⟨nb, 2, none⟩) ((H4.out.mono (fun _ _ h => h.elim)).grown G5.out (fun k hk _ => Or.inr hk)) (fun _ => Or.inl rfl) _
    · rcases G6.out with e | e
      · exact Or.inl e
      · exact Or.inr ⟨_, by simp; omega, e⟩

set_option maxHeartbeats 1000000 in
theorem pop_any (nb g n c : Nat) (cs sp : List Value) (l : List Pc) (w : World) (hnb : At w nb 56 cs) (hwv : cs[2]? = some (.slice (some ⟨g, 0, none⟩) (n + 1) c)) (hg : At w g 75 (fl l sp)) (hn : l.length = n + 1) (hc : n + 1 ≤ c) (hm : c ≤ 9223372036854775807) :
    Calls Try.prog 51 #[.pointer (some ⟨nb, 2, none⟩)] w fun e w' => e = .returned (.iface 75 (.agg #[.int .i64 (el l n).fr, .int .i64 (el l n).ds, .string (el l n).tx, .int .i64 (el l n).tm, .int .i64 (el l n).sn])) ∧
      At w' nb 56 (cs.set 2 (.slice (some ⟨g, 0, none⟩) n c)) ∧ Only (· = nb) w w' := by
  have hc2 := hnb.cell hwv
  have hf2 := hnb.frozen 2
  have hlt := hnb.lt
  have hlg := hg.lt
  obtain ⟨i0, i1, i2, i3, i4⟩ := fl_at hg (i := n) (by omega)
  generalize el l n = p at *
  obtain ⟨p0, p1, p2, p3, p4⟩ := p
  dsimp only at *
  have H1 := Lib.hid hnb
  clear hwv hn
  go_enter Try.func51, Try.ntmps51
  go_wp2_with fail
  go_ret
  exact ⟨rfl, (H1.out.put 2 _).alloc _, ((Only.refl (· = nb) w).put (p := ⟨nb, 2, none⟩) (fun _ => rfl) _).alloc _⟩

end Go.Proofs.Ytmhkdpmcnaeaiaa
