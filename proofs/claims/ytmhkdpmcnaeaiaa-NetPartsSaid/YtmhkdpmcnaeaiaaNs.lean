/-
  A net in memory: what a net is, as plain data, and where it lies.
-/
import Derived.Test.YtmhkdpmcnaeaiaaNt
namespace Go.Proofs.Ytmhkdpmcnaeaiaa
open Go.RowKit
set_option linter.unusedVariables false

/-- a net: its nodes, script, waiting copies, how many messages were sent, the group of each node -/
structure Nst where
  nd : Int
  sc : List Tr
  ws : List Pc
  sn : Nat
  gr : Int → Int

def mapBlock : Value → Option Nat
  | .map (some b) => some b
  | _ => none

def ikey (n : Int) : Value := .int .i64 n
def MapG (w : World) (gv : Value) (gr : Int → Int) : Prop :=
  (gv = .map none ∧ ∀ k, gr k = 0) ∨ ∃ b f, gv = .map (some b) ∧ MapF ikey w b f ∧ ∀ k, (f k).getD (.int .i64 0) = .int .i64 (gr k)

/-- the parts of a net in memory: sv, wv, gv are its slices and its map, l the heap's own order of what waits -/
structure NetP (w : World) (nb : Nat) (s : Nst) (sv wv gv : Value) (l : List Pc) : Prop where
  fields : At w nb 56 [.int .i64 s.nd, sv, wv, .int .i64 (s.sn : Int), gv]
  script : Ow w 44 3 sv s.sc.length (s.sc.flatMap Tr.cells)
  wait : Ow w 75 5 wv l.length (l.flatMap Pc.cells)
  perm : l.Perm s.ws
  heap : Heap l l.length
  groups : MapG w gv s.gr

def foot (nb : Nat) (sv wv gv : Value) (k : Nat) : Prop := k = nb ∨ sv.ownBlock = some k ∨ wv.ownBlock = some k ∨ mapBlock gv = some k
def NetIs (w : World) (nb : Nat) (s : Nst) (F : Nat → Prop) : Prop := ∃ sv wv gv l, NetP w nb s sv wv gv l ∧ F = foot nb sv wv gv

section
variable {w w' : World} {nb : Nat} {s : Nst} {sv wv gv : Value} {l : List Pc} {F S : Nat → Prop}
theorem MapG.only {gr : Int → Int} (h : MapG w gv gr) (ho : Only S w w') (hS : ∀ k, mapBlock gv = some k → ¬ S k) : MapG w' gv gr := by
  rcases h with h | ⟨b, f, rfl, h1, h2⟩
  · exact .inl h
  · exact .inr ⟨b, f, rfl, h1.only ho (hS b rfl), h2⟩
theorem MapG.lt {gr : Int → Int} (h : MapG w gv gr) : ∀ k, mapBlock gv = some k → k < w.heap.size := by
  rcases h with ⟨rfl, _⟩ | ⟨b, f, rfl, h1, h2⟩
  · intro k hk; simp [mapBlock] at hk
  · intro k hk
    simp [mapBlock] at hk
    subst hk
    exact h1.lt
theorem MapG.ne_at {gr : Int → Int} (h : MapG w gv gr) {g : Nat} {t : TypeId} {cs : List Value} (ha : At w g t cs) : mapBlock gv ≠ some g := by
  rcases h with ⟨rfl, _⟩ | ⟨b, f, rfl, h1, h2⟩
  · simp [mapBlock]
  · intro hk
    simp [mapBlock] at hk
    exact h1.ne_at ha hk.symm
theorem MapG.ne_ow {gr : Int → Int} (h : MapG w gv gr) {e : TypeId} {size n : Nat} {v : Value} {xs : List Value} (ho : Ow w e size v n xs) {g : Nat} (hg : v.ownBlock = some g) : mapBlock gv ≠ some g := by
  rcases ho.form with ⟨rfl, _⟩ | ⟨g', cap, sp, rfl, h2, _⟩
  · simp [Value.ownBlock] at hg
  · have : g' = g := by simpa [Value.ownBlock] using hg
    subst this
    exact h.ne_at h2
theorem look_MapG {gr : Int → Int} (h : MapG w gv gr) (k : Int) : (Instr.lookup 54 gv (.int .i64 k) false).run Try.prog w = .ok (.int .i64 (gr k)) w := by
  have hz : ∀ w, (zeroValue 3).run Try.prog w = .ok (.int .i64 0) w := fun w => by kernel_rfl
  have K : KeyKind Int Try.prog 3 ikey := keyInt Try.underlying3
  rcases h with ⟨rfl, h0⟩ | ⟨b, f, rfl, h1, h2⟩
  · rw [h0 k]; exact look_nil K Try.underlying54 hz w k
  · rw [← h2 k]; exact look_map K Try.underlying54 hz h1 k

theorem NetP.only (h : NetP w nb s sv wv gv l) (ho : Only S w w') (hS : ∀ k, foot nb sv wv gv k → ¬ S k) : NetP w' nb s sv wv gv l where
  fields := h.fields.only ho (hS nb (Or.inl rfl))
  script := h.script.only ho fun k hk => hS k (Or.inr (Or.inl hk))
  wait := h.wait.only ho fun k hk => hS k (Or.inr (Or.inr (Or.inl hk)))
  perm := h.perm
  heap := h.heap
  groups := h.groups.only ho fun k hk => hS k (Or.inr (Or.inr (Or.inr hk)))
theorem NetP.lt (h : NetP w nb s sv wv gv l) : ∀ k, foot nb sv wv gv k → k < w.heap.size := by
  rintro k (rfl | hk | hk | hk)
  · exact h.fields.lt
  · exact h.script.lt k hk
  · exact h.wait.lt k hk
  · exact h.groups.lt k hk
theorem NetIs.only (h : NetIs w nb s F) (ho : Only S w w') (hS : ∀ k, F k → ¬ S k) : NetIs w' nb s F := by
  obtain ⟨sv, wv, gv, l, h, rfl⟩ := h
  exact ⟨sv, wv, gv, l, h.only ho hS, rfl⟩
theorem NetIs.lt (h : NetIs w nb s F) : ∀ k, F k → k < w.heap.size := by
  obtain ⟨sv, wv, gv, l, h, rfl⟩ := h
  exact h.lt
/-- the fields were written: all else is where it was -/
theorem NetP.fields_turn (h : NetP w nb s sv wv gv l) {sn : Nat} (hf : At w' nb 56 [.int .i64 s.nd, sv, wv, .int .i64 (sn : Int), gv]) (ho : Only (· = nb) w w') : NetP w' nb { s with sn } sv wv gv l where
  fields := hf
  script := h.script.only ho fun k hk e => by subst e; exact h.script.ne_at h.fields (by decide) hk
  wait := h.wait.only ho fun k hk e => by subst e; exact h.wait.ne_at h.fields (by decide) hk
  perm := h.perm
  heap := h.heap
  groups := h.groups.only ho fun k hk e => by subst e; exact h.groups.ne_at h.fields hk
end

/-- what happens dt the next message -/
def Nst.next (s : Nst) : Tr := if h : 0 < s.sc.length then s.sc[s.sn % s.sc.length]'(Nat.mod_lt _ h) else ⟨false, 1, 1⟩
/-- a message is lost -/
def Nst.drops (s : Nst) (fr dt : Int) : Prop := s.next.lost = true ∨ nodeB s.nd dt = false ∨ (nodeB s.nd fr = true ∧ s.gr fr ≠ s.gr dt)
def Tr.many (t : Tr) : Nat := (min (max t.copies 1) 8).toNat
/-- the copies of a message -/
def Nst.parcels (s : Nst) (now fr dt : Int) (tx : ByteArray) : List Pc := (List.range s.next.many).map fun (j : Nat) => ⟨fr, dt, tx, now + max s.next.delay 0 + j, s.sn⟩

set_option maxHeartbeats 400000 in
theorem trouble_any (nb : Nat) (s : Nst) (sv wv gv : Value) (l : List Pc) (w : World) (h : NetP w nb s sv wv gv l) (hm : s.sc.length ≤ 1000000) (hsn : s.sn ≤ 1000000) :
    Calls Try.prog 24 #[.pointer (some ⟨nb, 0, none⟩)] w fun e w' => e = .returned (.agg #[.bool s.next.lost, .int .i64 s.next.copies, .int .i64 s.next.delay]) ∧ Only (fun _ => False) w w' := by
  rcases h.script.form with ⟨rfl, h0, _⟩ | ⟨g, cap, sp, rfl, h2, h3, h4, h5⟩
  · have e : s.next = ⟨false, 1, 1⟩ := by unfold Nst.next; rw [dif_neg (by omega)]
    rw [e]
    exact trouble_none nb w (h.fields.cell rfl)
  · by_cases hl : 0 < s.sc.length
    · have e : s.next = s.sc[s.sn % s.sc.length]'(Nat.mod_lt _ hl) := by unfold Nst.next; rw [dif_pos hl]
      rw [e]
      exact trouble_some nb g s.sn cap s.sc sp w (h.fields.cell rfl) (h.fields.cell rfl) h2 hl hm hsn
    · have e : s.next = ⟨false, 1, 1⟩ := by unfold Nst.next; rw [dif_neg hl]
      have e0 : s.sc.length = 0 := by omega
      rw [e]
      have hc := h.fields.cell (i := 1) rfl
      rw [e0] at hc
      have hlt := World.block_lt_of_cell? w _ hc
      go_enter Try.func24, Try.ntmps24
      go_wp2
      exact bodyPost_ret (v := .agg #[.bool false, .int .i64 1, .int .i64 1]) (by simp [results, Try.results24, go_sem]) rfl ⟨rfl, (Only.refl _ w).alloc _⟩

end Go.Proofs.Ytmhkdpmcnaeaiaa
