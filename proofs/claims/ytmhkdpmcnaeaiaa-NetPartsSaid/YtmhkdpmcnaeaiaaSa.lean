/-
  The statements' own sanity check, by its contract: it answers true.
-/
import Derived.Test.YtmhkdpmcnaeaiaaNz
namespace Go.Proofs.Ytmhkdpmcnaeaiaa
open Go.RowKit
set_option linter.unusedVariables false

def saScript : List Tr := [⟨false, 0, 5⟩, ⟨true, 0, 0⟩, ⟨false, 2, 0⟩]
def sa0 : Nst := ⟨2, saScript, [], 0, fun _ => 0⟩
def saTime (j : Nat) : Int := [10, 11, 12, 12].getD j 0
def sa : Nat → Nst
  | 0 => sa0
  | j + 1 => (sa j).send (saTime j) j 1 ⟨#[]⟩
def saWait : List Pc := [⟨2, 1, ⟨#[]⟩, 12, 2⟩, ⟨2, 1, ⟨#[]⟩, 13, 2⟩, ⟨0, 1, ⟨#[]⟩, 15, 0⟩, ⟨3, 1, ⟨#[]⟩, 17, 3⟩]

theorem sa_nd (j : Nat) : (sa j).nd = 2 ∧ (sa j).sc = saScript ∧ (sa j).sn = j ∧ (sa j).gr = fun _ => 0 := by
  induction j with
  | zero => exact ⟨rfl, rfl, rfl, rfl⟩
  | succ j ih =>
    obtain ⟨h1, h2, h3, h4⟩ := ih
    simp only [sa]
    unfold Nst.send
    split <;> simp [h1, h2, h3, h4]
theorem sa4 : (sa 4).ws.Perm saWait := by
  have e : (sa 4).ws = [⟨0, 1, ⟨#[]⟩, 15, 0⟩, ⟨2, 1, ⟨#[]⟩, 12, 2⟩, ⟨2, 1, ⟨#[]⟩, 13, 2⟩, ⟨3, 1, ⟨#[]⟩, 17, 3⟩] := by kernel_rfl
  rw [e]
  unfold saWait
  refine (List.Perm.swap _ _ _).trans (List.Perm.cons _ ?_)
  exact List.Perm.swap _ _ _

theorem NetIs.ne_at {w : World} {nb g : Nat} {s : Nst} {F : Nat → Prop} {t : TypeId} {cs : List Value} (h : NetIs w nb s F) (ha : At w g t cs) (h1 : 56 ≠ t) (h2 : 44 ≠ t) (h3 : 75 ≠ t) : ¬ F g := by
  obtain ⟨sv, wv, gv, l, h, rfl⟩ := h
  exact fun hg => h.ne_at ha h1 h2 h3 g hg rfl

/-- a net all of whose blocks are from B on -/
def NetB (B : Nat) (w : World) (nb : Nat) (s : Nst) : Prop := ∃ F, NetIs w nb s F ∧ ∀ k, F k → B ≤ k
/-- what a call on such a net has changed -/
structure Kept (B : Nat) (w w' : World) : Prop where
  only : Only (fun k => B ≤ k) w w'
  at_ : ∀ g t cs, At w g t cs → 56 ≠ t → 44 ≠ t → 75 ≠ t → At w' g t cs

section
variable {B nb : Nat} {s s' : Nst} {w w' w'' : World} {F : Nat → Prop}
theorem NetB.turned (h : NetIs w nb s F) (hF : ∀ k, F k → B ≤ k) (hB : B ≤ w.heap.size) (ht : Turned nb s' F w w') : NetB B w' nb s' ∧ Kept B w w' := by
  obtain ⟨F', h1, h2, h3⟩ := ht
  refine ⟨⟨F', h1, fun k hk => (h3 k hk).elim (hF k) fun h => by omega⟩, h2.mono fun i _ hi => hF i hi, fun g t cs ha a b c => ha.only h2 (h.ne_at ha a b c)⟩
theorem Kept.trans (h : Kept B w w') (k : Kept B w' w'') : Kept B w w'' := ⟨h.only.trans k.only (fun _ _ h => h), fun g t cs ha a b c => k.at_ g t cs (h.at_ g t cs ha a b c) a b c⟩
theorem Kept.refl (B : Nat) (w : World) : Kept B w w := ⟨Only.refl _ _, fun _ _ _ h _ _ _ => h⟩
theorem Kept.of_empty (h : Only (fun _ => False) w w') : Kept B w w' := ⟨h.mono (fun _ _ h => h.elim), fun _ _ _ ha _ _ _ => ha.only h (fun h => h)⟩
theorem NetB.keep (h : NetB B w nb s) (ho : Only (fun _ => False) w w') : NetB B w' nb s := by
  obtain ⟨F, h1, h2⟩ := h
  exact ⟨F, h1.only ho (fun _ _ h => h), h2⟩
theorem Kept.empty (h : Kept w.heap.size w w') : Only (fun _ => False) w w' := h.only.mono (fun i hi h => by omega)

theorem send_B (now fr dt : Int) (tx : ByteArray) (h : NetB B w nb s) (hB : B ≤ w.heap.size) (hm : s.sc.length ≤ 1000000) (hsn : s.sn < 1000000)
    (hb : s.drops fr dt ∨ (-1000000000000 ≤ now ∧ now ≤ 1000000000000 ∧ s.next.delay ≤ 1000000000000 ∧ s.ws.length ≤ 900000)) :
    Calls Try.prog 15 #[.pointer (some ⟨nb, 0, none⟩), .int .i64 now, .agg #[.int .i64 fr, .int .i64 dt, .string tx]] w fun e w' => e = .returned (.tuple #[]) ∧ NetB B w' nb (s.send now fr dt tx) ∧ Kept B w w' := by
  obtain ⟨F, h1, h2⟩ := h
  exact (send_any nb now fr dt tx s F w h1 hm hsn hb).mono fun _ _ ⟨e, ht⟩ => ⟨e, NetB.turned h1 h2 hB ht⟩
theorem part_B (A : Option Addr) (c : Nat) (xs : List Int) (h : NetB B w nb s) (hB : B ≤ w.heap.size) (hr : RdI w nb A xs) (hm : xs.length ≤ 1000000) :
    Calls Try.prog 17 #[.pointer (some ⟨nb, 0, none⟩), .slice A xs.length c] w fun e w' => e = .returned (.tuple #[]) ∧ NetB B w' nb { s with gr := groupOf xs } ∧ Kept B w w' := by
  obtain ⟨F, h1, h2⟩ := h
  exact (part_any nb s F A c xs w h1 hr hm).mono fun _ _ ⟨e, ht⟩ => ⟨e, NetB.turned h1 h2 hB ht⟩
theorem waits_B (n : Int) (h : NetB B w nb s) (hn : (s.ws.length : Int) = n) : Calls Try.prog 21 #[.pointer (some ⟨nb, 0, none⟩)] w fun e w' => e = .returned (.int .i64 n) ∧ w = w' := by
  obtain ⟨F, h1, h2⟩ := h
  subst hn
  exact (waits_any nb s F w h1).mono fun _ _ h => ⟨h.1, h.2.symm⟩
/-- the next copy of such a net -/
def NextB (B nb : Nat) (s : Nst) (w : World) (r : Ending) (w' : World) : Prop :=
  (s.ws = [] ∧ r = .returned (.tuple #[.agg #[.int .i64 0, .int .i64 0, .string ⟨#[]⟩], .int .i64 0, .bool false]) ∧ NetB B w' nb s ∧ Kept B w w') ∨
  ∃ p, p ∈ s.ws ∧ (∀ q ∈ s.ws, lt q p = false) ∧ r = .returned (.tuple #[.agg #[.int .i64 p.fr, .int .i64 p.ds, .string p.tx], .int .i64 p.tm, .bool true]) ∧
    ∀ ws', s.ws.Perm (p :: ws') → NetB B w' nb { s with ws := ws' } ∧ Kept B w w'
theorem next_B (h : NetB B w nb s) (hB : B ≤ w.heap.size) (hm : s.ws.length < 1000000) : Calls Try.prog 19 #[.pointer (some ⟨nb, 0, none⟩)] w fun e w' => NextB B nb s w e w' := by
  obtain ⟨F, h1, h2⟩ := h
  refine (next_any nb s F w h1 hm).mono fun e w' hn => ?_
  rcases hn with ⟨a, b, ht⟩ | ⟨p, a, b, c, ht⟩
  · exact .inl ⟨a, b, NetB.turned h1 h2 hB ht⟩
  · exact .inr ⟨p, a, b, c, fun ws' hp => NetB.turned h1 h2 hB (ht ws' hp)⟩
/-- the next copy where the copies are listed in their order -/
theorem next_sorted (h : NetB B w nb s) (hB : B ≤ w.heap.size) (hm : s.ws.length < 1000000) (p : Pc) (t : List Pc) (hs : s.ws = p :: t) (ho : ∀ q ∈ t, lt p q = true) :
    Calls Try.prog 19 #[.pointer (some ⟨nb, 0, none⟩)] w fun e w' => e = .returned (.tuple #[.agg #[.int .i64 p.fr, .int .i64 p.ds, .string p.tx], .int .i64 p.tm, .bool true]) ∧ NetB B w' nb { s with ws := t } ∧ Kept B w w' := by
  refine (next_B h hB hm).mono fun e w' hn => ?_
  rcases hn with ⟨a, _⟩ | ⟨p', a, b, c, ht⟩
  · rw [hs] at a; cases a
  · rw [hs] at a b
    obtain rfl := min_head a b ho
    exact ⟨c, ht t (by rw [hs])⟩
theorem next_empty (h : NetB B w nb s) (hB : B ≤ w.heap.size) (hs : s.ws = []) :
    Calls Try.prog 19 #[.pointer (some ⟨nb, 0, none⟩)] w fun e w' => e = .returned (.tuple #[.agg #[.int .i64 0, .int .i64 0, .string ⟨#[]⟩], .int .i64 0, .bool false]) ∧ NetB B w' nb s ∧ Kept B w w' := by
  refine (next_B h hB (by rw [hs]; decide)).mono fun e w' hn => ?_
  rcases hn with ⟨a, b, c⟩ | ⟨p', a, _⟩
  · exact ⟨b, c⟩
  · rw [hs] at a; cases a
theorem new_B (nd : Int) (sv : Value) (l : List Tr) (hB : B ≤ w.heap.size) (h : Ow w 44 3 sv l.length (l.flatMap Tr.cells)) (hl : l.length ≤ 1000000) :
    Calls Try.prog 13 #[.int .i64 nd, sv] w fun e w' => ∃ nb, e = .returned (.pointer (some ⟨nb, 0, none⟩)) ∧ NetB B w' nb ⟨nd, l, [], 0, fun _ => 0⟩ ∧ Only (fun _ => False) w w' := by
  refine (new_any nd sv l w h hl).mono fun e w' h => ?_
  obtain ⟨nb, F, a, b, c, d⟩ := h
  exact ⟨nb, a, ⟨F, b, fun k hk => by have := d k hk; omega⟩, c⟩
theorem NetB.reorder (h : NetB B w nb s) {ws : List Pc} (hp : s.ws.Perm ws) : NetB B w nb { s with ws } := by
  obtain ⟨F, h1, h2⟩ := h
  exact ⟨F, h1.reorder hp, h2⟩
end

def sB0 : Nst := { sa 4 with ws := saWait.drop 4 }
def sB1 : Nst := sB0.send 0 0 2 ⟨#[]⟩
def sB2 : Nst := { sB1 with gr := groupOf [1, 2] }
def sB3 : Nst := sB2.send 0 0 1 ⟨#[]⟩
def sB4 : Nst := sB3.send 0 7 1 ⟨#[]⟩
theorem sB_0 : sB0.sc.length ≤ 1000000 ∧ sB0.sn < 1000000 ∧ sB0.drops 0 2 := ⟨by decide +kernel, by decide +kernel, .inr (.inl (by decide +kernel))⟩
theorem sB_2 : sB2.sc.length ≤ 1000000 ∧ sB2.sn < 1000000 ∧ sB2.drops 0 1 := ⟨by decide +kernel, by decide +kernel, .inr (.inr (by decide +kernel))⟩
theorem sB_3 : sB3.sc.length ≤ 1000000 ∧ sB3.sn < 1000000 ∧ (-1000000000000 ≤ (0 : Int) ∧ (0 : Int) ≤ 1000000000000 ∧ sB3.next.delay ≤ 1000000000000 ∧ sB3.ws.length ≤ 900000) := ⟨by decide +kernel, by decide +kernel, by decide +kernel⟩
theorem sB_w1 : (sB1.ws.length : Int) = 0 := by decide +kernel
theorem sB_w3 : (sB3.ws.length : Int) = 0 := by decide +kernel
theorem sB_w4 : (sB4.ws.length : Int) = 1 := by decide +kernel
def saW (j : Nat) : Pc := saWait.getD j ⟨0, 0, ⟨#[]⟩, 0, 0⟩
theorem sa_next (j : Nat) (hj : j < 4) : saWait.drop j = saW j :: saWait.drop (j + 1) ∧ (∀ q ∈ saWait.drop (j + 1), lt (saW j) q = true) ∧ (saWait.drop j).length < 1000000 := by
  have h : j = 0 ∨ j = 1 ∨ j = 2 ∨ j = 3 := by omega
  rcases h with rfl | rfl | rfl | rfl
  · exact ⟨rfl, by decide +kernel, by decide +kernel⟩
  · exact ⟨rfl, by decide +kernel, by decide +kernel⟩
  · exact ⟨rfl, by decide +kernel, by decide +kernel⟩
  · exact ⟨rfl, by decide +kernel, by decide +kernel⟩
theorem sa_ok (j : Nat) (hj : j < 4) : (sa j).sc.length ≤ 1000000 ∧ (sa j).sn < 1000000 ∧ ((sa j).drops j 1 ∨ (-1000000000000 ≤ saTime j ∧ saTime j ≤ 1000000000000 ∧ (sa j).next.delay ≤ 1000000000000 ∧ (sa j).ws.length ≤ 900000)) := by
  have h : j = 0 ∨ j = 1 ∨ j = 2 ∨ j = 3 := by omega
  rcases h with rfl | rfl | rfl | rfl
  · exact ⟨by decide +kernel, by decide +kernel, .inr (by decide +kernel)⟩
  · exact ⟨by decide +kernel, by decide +kernel, .inr (by decide +kernel)⟩
  · exact ⟨by decide +kernel, by decide +kernel, .inr (by decide +kernel)⟩
  · exact ⟨by decide +kernel, by decide +kernel, .inr (by decide +kernel)⟩

end Go.Proofs.Ytmhkdpmcnaeaiaa
