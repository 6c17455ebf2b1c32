/-
  Package net's Part, by its contract.
-/
import Derived.Test.YtmhkdpmcnaeaiaaNy
namespace Go.Proofs.Ytmhkdpmcnaeaiaa
open Go.RowKit
set_option linter.unusedVariables false

/-- a slice of integers can be read, and lies elsewhere than in block nb -/
def RdI (w : World) (nb : Nat) (A : Option Addr) (xs : List Int) : Prop :=
  0 < xs.length → ∃ ad, A = some ad ∧ ad.block ≠ nb ∧ ∀ j, j < xs.length → w.cell? (ad.add j) = some (.int .i64 (xs.getD j 0))

def groupOf (xs : List Int) (k : Int) : Int := if 0 ≤ k then xs.getD k.toNat 0 else 0

theorem block_add (a : Addr) (n : Nat) : (a.add n).block = a.block := by unfold Addr.add; split <;> rfl

set_option maxHeartbeats 1000000 in
theorem part_any (nb : Nat) (s : Nst) (F : Nat → Prop) (A : Option Addr) (c : Nat) (xs : List Int) (w : World) (h : NetIs w nb s F) (hr : RdI w nb A xs) (hm : xs.length ≤ 1000000) :
    Calls Try.prog 17 #[.pointer (some ⟨nb, 0, none⟩), .slice A xs.length c] w fun e w' => e = .returned (.tuple #[]) ∧ Turned nb { s with gr := groupOf xs } F w w' := by
  obtain ⟨sv, wv, gv, l, h, rfl⟩ := h
  have hlt := h.fields.lt
  have hmm := @run_makeMap Try.prog
  have f4 := h.fields.frozen 4
  have c4 := h.fields.cell (i := 4) rfl
  have g4 := ((h.fields.put 4 (.map (some w.heap.size))).alloc (.map #[] 0))
  have o4 : Only (· = nb) w ((w.setCell ⟨nb, 4, none⟩ (.map (some w.heap.size))).alloc (.map #[] 0)) := ((Only.refl (· = nb) w).put (p := ⟨nb, 4, none⟩) (fun _ => rfl) _).alloc _
  have m4 := MapF.new ikey (w.setCell ⟨nb, 4, none⟩ (.map (some w.heap.size)))
  simp only [World.size_setCell] at m4
  have G4 := Lib.hid g4
  have O4 := Lib.hid o4
  have M4 := Lib.hid m4
  have HR := Lib.hid hr
  clear g4 o4 m4 hr
  go_enter Try.func17, Try.ntmps17
  go_wp2_with fail
  go_loopw [14] (fun iv wr => ∃ j : Nat, iv = .int .i64 j ∧ j ≤ xs.length ∧ At wr nb 56 [.int .i64 s.nd, sv, wv, .int .i64 (s.sn : Int), .map (some w.heap.size)] ∧
      Only (· = nb) w wr ∧ MapF ikey wr w.heap.size (fun k => if 0 ≤ k ∧ k < (j : Int) then some (.int .i64 (groupOf xs k)) else none)) (fun iv _ => xs.length - (intOf iv).toNat)
  case atStart => exact ⟨0, rfl, Nat.zero_le _, G4.out, O4.out, by
    have := M4.out
    have e : (fun k : Int => if 0 ≤ k ∧ k < ((0 : Nat) : Int) then some (Value.int .i64 (groupOf xs k)) else none) = fun _ => none := by funext k; rw [if_neg (by omega)]
    rw [e]; exact this⟩
  case round =>
    obtain ⟨j, rfl, hj, ha, ho, hmf⟩ := hrel
    by_cases hjl : j < xs.length
    · obtain ⟨ad, rfl, hne, hcell⟩ := HR.out (by omega)
      have hcj : wr.cell? (ad.add j) = some (.int .i64 (xs.getD j 0)) := ho.cell (hcell j hjl) (by rw [block_add]; exact hne)
      have ca := ha.cell (i := 4) rfl
      have e1 : (fun k' : Int => if k' = (j : Int) then some (.int .i64 (xs.getD j 0)) else if 0 ≤ k' ∧ k' < (j : Int) then some (Value.int .i64 (groupOf xs k')) else none) =
          fun k' : Int => if 0 ≤ k' ∧ k' < ((j + 1 : Nat) : Int) then some (.int .i64 (groupOf xs k')) else none := by
        funext k'
        by_cases e : k' = (j : Int)
        · subst e
          rw [if_pos rfl, if_pos (by omega)]
          simp [groupOf]
        · rw [if_neg e]
          by_cases e2 : 0 ≤ k' ∧ k' < (j : Int)
          · rw [if_pos e2, if_pos (by omega)]
          · rw [if_neg e2, if_neg (by omega)]
      obtain ⟨w2, hrun, hm2, ho2⟩ := store_map (keyInt Try.underlying3 : KeyKind Int Try.prog 3 ikey) Try.underlying54 hmf (j : Int) (.int .i64 (xs.getD j 0))
      rw [e1] at hm2
      have hrun' : (Instr.mapUpdate 54 (.map (some w.heap.size)) (.int .i64 (j : Int)) (.int .i64 (xs.getD j 0))).run Try.prog wr = .ok () w2 := hrun
      have H2 := Lib.hid hm2
      have O2 := Lib.hid ho2
      have E1 := Lib.hid e1
      have HMF := Lib.hid hmf
      clear hm2 ho2 e1 hrun hmf
      generalize xs.getD j 0 = x at *
      go_wp2_with fail
      go_roundw
      case rel => exact ⟨j + 1, by go_num, by omega, ha.only O2.out (fun e => HMF.out.ne_at ha e), (ho.trans O2.out (fun i hi e => by omega)), H2.out⟩
      case measure => simp [intOf]; omega
    · have HMF := Lib.hid hmf
      clear hmf
      have hno : ∀ k, foot nb sv wv gv k → k ≠ nb → ¬ k = nb := fun _ _ h => h
      go_wp2_with fail
      go_end0
      refine ⟨rfl, _, ⟨sv, wv, .map (some w.heap.size), l, ⟨ha, ?_, ?_, h.perm, h.heap, ?_⟩, rfl⟩, ho.mono (fun _ _ e => Or.inl e), ?_⟩
      · exact h.script.only ho fun k hk e => by subst e; exact h.script.ne_at h.fields (by decide) hk
      · exact h.wait.only ho fun k hk e => by subst e; exact h.wait.ne_at h.fields (by decide) hk
      · refine Or.inr ⟨_, _, rfl, HMF.out, fun k => ?_⟩
        by_cases e : 0 ≤ k ∧ k < (j : Int)
        · rw [if_pos e]; rfl
        · rw [if_neg e]
          have : groupOf xs k = 0 := by
            unfold groupOf
            by_cases e0 : 0 ≤ k
            · rw [if_pos e0, List.getD_eq_getElem?_getD, List.getElem?_eq_none (by omega)]; rfl
            · rw [if_neg e0]
          show _ = Value.int .i64 (groupOf xs k)
          rw [this]; rfl
      · rintro k (e | e | e | e)
        · exact .inl (.inl e)
        · exact .inl (.inr (.inl e))
        · exact .inl (.inr (.inr (.inl e)))
        · simp [mapBlock] at e
          exact .inr (by omega)

theorem NetIs.reorder {w : World} {nb : Nat} {s : Nst} {F : Nat → Prop} (h : NetIs w nb s F) {ws : List Pc} (hp : s.ws.Perm ws) : NetIs w nb { s with ws } F := by
  obtain ⟨sv, wv, gv, l, h, rfl⟩ := h
  exact ⟨sv, wv, gv, l, ⟨h.fields, h.script, h.wait, h.perm.trans hp, h.heap, h.groups⟩, rfl⟩

theorem waits_any (nb : Nat) (s : Nst) (F : Nat → Prop) (w : World) (h : NetIs w nb s F) :
    Calls Try.prog 21 #[.pointer (some ⟨nb, 0, none⟩)] w fun e w' => e = .returned (.int .i64 (s.ws.length : Nat)) ∧ w' = w := by
  obtain ⟨sv, wv, gv, l, h, rfl⟩ := h
  obtain ⟨A, c, rfl⟩ := h.wait.shape
  rw [← h.perm.length_eq]
  exact waiting_any nb l.length c A w (h.fields.cell rfl)

theorem min_head {p x : Pc} {t : List Pc} (hp : p ∈ x :: t) (hm : ∀ q ∈ x :: t, lt q p = false) (hx : ∀ q ∈ t, lt x q = true) : p = x := by
  rcases List.mem_cons.1 hp with h | h
  · exact h
  · have h1 := hm x (List.mem_cons_self ..)
    rw [hx p h] at h1
    cases h1

set_option maxHeartbeats 400000 in
theorem send_nil (now fr dt : Int) (tx : ByteArray) (w : World) :
    Calls Try.prog 15 #[.pointer none, .int .i64 now, .agg #[.int .i64 fr, .int .i64 dt, .string tx]] w fun e w' => e = .returned (.tuple #[]) ∧ Only (fun _ => False) w w' := by
  go_enter Try.func15, Try.ntmps15
  go_wp2
  exact bodyPost_ret (results_none rfl _ _ _) rfl ⟨rfl, (Only.refl _ w).alloc _⟩
set_option maxHeartbeats 400000 in
theorem part_nil (v : Value) (w : World) : Calls Try.prog 17 #[.pointer none, v] w fun e w' => e = .returned (.tuple #[]) ∧ w' = w := by
  go_enter Try.func17, Try.ntmps17
  go_wp2
  exact bodyPost_ret (results_none rfl _ _ _) rfl ⟨rfl, rfl⟩
set_option maxHeartbeats 400000 in
theorem next_nil (w : World) : Calls Try.prog 19 #[.pointer none] w fun e w' => e = .returned (.tuple #[.agg #[.int .i64 0, .int .i64 0, .string ⟨#[]⟩], .int .i64 0, .bool false]) ∧ Only (fun _ => False) w w' := by
  go_enter Try.func19, Try.ntmps19
  go_wp2
  exact bodyPost_ret (v := .tuple #[.agg #[.int .i64 0, .int .i64 0, .string ⟨#[]⟩], .int .i64 0, .bool false]) (by simp [results, Try.results19, go_sem]) rfl ⟨rfl, (Only.refl _ w).alloc _⟩

end Go.Proofs.Ytmhkdpmcnaeaiaa
