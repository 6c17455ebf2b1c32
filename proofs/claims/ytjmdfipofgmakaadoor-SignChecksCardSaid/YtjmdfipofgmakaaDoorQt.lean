/-
  Regions that draw their order: one walk in the order of the text, where calls may make memory (a class of worlds), with a tail of operations in one forced order behind it.
-/
import Derived.StillTail
import Derived.Test.YtjmdfipofgmakaaDoorMem
namespace Go.Proofs.YtjmdfipofgmakaaDoor
open Go.RowKit
set_option linter.unusedVariables false
set_option linter.unusedSimpArgs false

section
variable {P : Program} {ops : Array Oper} {md : Region.Mode} {C : World → Prop}

/-- the first n operations, in whatever order, each with one value in the whole class; then L -/
def Head (P : Program) (md : Region.Mode) (ops : Array Oper) (C : World → Prop) (n : Nat) (L : Array Bool → Act → Prop) : Nat → Array Bool → Act → Prop
  | 0, l, a => L l a
  | k + 1, l, a => Region.ready md ops l ≠ [] ∧ ∀ i ∈ Region.ready md ops l, i < n ∧ qOp P ops C i (Head P md ops C n L k (l.setIfInBounds i true)) a

theorem Head.any {n g : Nat} {L : Array Bool → Act → Prop} {Q : Exit → Act → World → Prop} (hL : ∀ l a w, C w → L l a → wpAny P md ops Q g l a w) :
    ∀ (k : Nat) (l : Array Bool) (a : Act) (w : World), C w → Head P md ops C n L k l a → wpAny P md ops Q (k + g) l a w
  | 0, l, a, w, hw, h => by rw [Nat.zero_add]; exact hL _ _ _ hw h
  | k + 1, l, a, w, hw, h => by
    rw [show k + 1 + g = (k + g) + 1 by omega]
    exact ⟨fun h0 => absurd h0 h.1, fun i hi => wpOp_of_qOp hw (fun a' w' hw' h' => Head.any hL k _ a' w' hw' h') (h.2 i hi).2⟩

theorem Head.first {n i : Nat} {oi : Oper} {v : Value} {L : Array Bool → Act → Prop} (hi : ops[i]? = some oi) (hsel : ∀ (j : Nat) (o : Oper) cs b, ops[j]? = some o → o.op ≠ .select cs b)
    (hs : Region.sinkB md ops n = true) (hc : Region.chainB md ops n = true) (hn : n < ops.size) (hin : i < n) (hdone : ∀ l a, L l a → ∀ j ∈ Region.ready md ops l, n ≤ j) :
    ∀ (k : Nat) (l : Array Bool) (a : Act), HeadInv md ops n l → (∀ j oj, ops[j]? = some oj → j ≠ i → l.getD j true = false → (∀ e ∈ oj.after, Region.binds md e = true → e.on ≠ i) → oi.apart ops oj = true) →
      i ∈ Region.ready md ops l → YieldsIn P ops C oi v a → Head P md ops C n L k (l.setIfInBounds i true) (a.put oi.dst v) → Head P md ops C n L (k + 1) l a
  | k, l, a, inv, hfree, hr, hy, H => by
    have hun := (mem_ready.1 hr).1
    refine ⟨fun h => (by rw [h] at hr; cases hr), fun j hj => ?_⟩
    have hjn : j < n := by
      rcases Nat.lt_or_ge j n with h | h
      · exact h
      · exact absurd hj (tail_waits hs hc hn inv _ i rfl hin hun j h)
    refine ⟨hjn, ?_⟩
    by_cases hji : j = i
    · subst hji; exact hy.qOp hi H
    · match k, H with
      | 0, H =>
        have := hdone _ _ H j (ready_mono hj hji)
        omega
      | k + 1, H =>
        have h1 := (H.2 j (ready_mono hj hji)).2
        obtain ⟨hjun, oj, hoj, hall⟩ := mem_ready.1 hj
        have hnot : ∀ e ∈ oj.after, Region.binds md e = true → e.on ≠ i := fun e he hb heq => by
          have h3 := hall e he hb
          rw [heq, getD_both hun] at h3
          cases h3
        have h2 := qOp_put hoj (hfree j oj hoj hji hjun hnot) (fun cs b => hsel i oi cs b hi) (fun cs b => hsel j oj cs b hoj) hy h1
        have hfree' : ∀ m om, ops[m]? = some om → m ≠ i → (l.setIfInBounds j true).getD m true = false → (∀ e ∈ om.after, Region.binds md e = true → e.on ≠ i) → oi.apart ops om = true := fun m om hm hmi hu hno => by
          refine hfree m om hm hmi ?_ hno
          by_cases hjm : j = m
          · subst hjm; exact hjun
          · rw [getD_set_ne true hjm] at hu; exact hu
        refine qOp_mono (fun a' h3 => Head.first hi hsel hs hc hn hin hdone k (l.setIfInBounds j true) a' (inv.set hj hjn) hfree' (ready_mono hr (Ne.symm hji)) h3.1 ?_) h2
        rw [Array.setIfInBounds_comm _ _ hji]
        exact h3.2

theorem Head.lex {n g : Nat} {Lq : Act → Prop} (hsel : Region.noSelect ops = true) (hs : Region.sinkB md ops n = true) (hc : Region.chainB md ops n = true) (hn : n < ops.size) :
    ∀ (os : List Oper) (k : Nat) (l : Array Bool) (a : Act), (∀ j, j < os.length → os[j]? = ops[k + j]?) → k + os.length = n → HeadInv md ops n l → Region.lexHead md ops g os.length k l = true → wpQuiet P ops C Lq os a →
    Head P md ops C n (fun l' a' => Region.seqB md ops g n l' = true ∧ Lq a') os.length l a
  | [], k, l, a, _, hk, _, hB, h => by
    obtain rfl : k = n := by simpa using hk
    exact ⟨by simpa [Region.lexHead] using hB, h⟩
  | o :: os, k, l, a, hl, hk, inv, hB, h => by
    have h0 : ops[k]? = some o := by simpa using (hl 0 (by simp)).symm
    simp only [List.length_cons, Region.lexHead, Bool.and_eq_true] at hB
    obtain ⟨⟨hr, hf⟩, hB'⟩ := hB
    have hkn : k < n := by simp only [List.length_cons] at hk; omega
    have hr' : k ∈ Region.ready md ops l := by simpa using hr
    have hst : qOp P ops C k (wpQuiet P ops C Lq os) a := by unfold qOp; simp only [h0]; exact h
    obtain ⟨v, hy, hK⟩ := yieldsIn_of_qOp h0 hst
    exact Head.first h0 (Region.noSelect_spec hsel) hs hc hn hkn (fun l' a' hL => seqB_ready hL.1) os.length l a inv (Region.free_spec h0 hf) hr' hy
      (Head.lex hsel hs hc hn os (k + 1) _ _ (fun j hj => by have := hl (j + 1) (by simp; omega); simpa [Nat.add_assoc, Nat.add_comm 1 j] using this) (by simp only [List.length_cons] at hk; omega) (inv.set hr' hkn) hB' hK)

/-- the region with a tail: n operations that leave a world of the class, then the others in the world that is left -/
theorem wp_class_tail {id : Nat} {Q : Exit → Act → World → Prop} {a : Act} {w : World} {l : List Oper} (n : Nat) (hm : P.follows .mixedOrders = true) (hB : Region.lexTailB .any l.toArray n = true) (hC : C w.drew)
    (h : wpQuiet P l.toArray C (fun a' => ∀ w', C w' → wpList P l.toArray Q (l.drop n) a' w') (l.take n) a) : (Code.region id l.toArray true).wp P Q a w := by
  simp only [Region.lexTailB, Bool.and_eq_true, decide_eq_true_eq] at hB
  obtain ⟨⟨⟨⟨hsel, hn⟩, hs⟩, hc⟩, hlex⟩ := hB
  have hn' : n < l.length := by simpa using hn
  have htl : (l.take n).length = n := by simp; omega
  have hdl : (l.drop n).length = l.toArray.size - n := by simp
  have inv0 : HeadInv .any l.toArray n (Array.replicate l.toArray.size false) :=
    ⟨by simp, fun j oj _ hl => (by rw [getD_replicate_false] at hl; cases hl), fun t _ ht => getD_in (by simpa using ht) (getD_replicate_false _ _)⟩
  have H := Head.lex (md := .any) (g := l.toArray.size - n) hsel hs hc hn (l.take n) 0 _ a (fun j hj => by
    have hj' : j < n := by rw [htl] at hj; exact hj
    simp [hj']) (by simpa using htl) inv0 (by rw [htl]; exact hlex) h
  refine wp_region_any hm ?_
  have := Head.any (Q := Q) (g := l.toArray.size - n) (fun l' a' w' hw' hL => by
    have := wpAny_of_seq (md := .any) (Q' := Q) (l.drop n) n l' a' w' (fun j => by simp [List.getElem?_drop]) (by rw [hdl]; exact hL.1) (hL.2 w' hw')
    rwa [hdl] at this) _ _ _ w.drew hC H
  rw [htl, show n + (l.toArray.size - n) = l.toArray.size by omega] at this
  exact this
end

section
variable {P : Program} {X : Type} {F : X → World}
/-- a region whose calls may make memory: the worlds F x -/
theorem wp_family {id : Nat} {Q : Exit → Act → World → Prop} {a : Act} {w : World} {l : List Oper} (hm : P.follows .mixedOrders = true) (hB : Region.lexB .any l.toArray = true) (F : X → World) (x0 : X) (h0 : F x0 = w.drew)
    (h : wpQuiet P l.toArray (fun w' => ∃ x, w' = F x) (fun a' => ∀ x, Q .normal a' (F x)) l a) : (Code.region id l.toArray true).wp P Q a w := by
  refine wp_region_quiet (C := fun w' => ∃ x, w' = F x) hm hB ⟨x0, h0.symm⟩ ?_
  have : ∀ (os : List Oper) (a : Act), wpQuiet P l.toArray (fun w' => ∃ x, w' = F x) (fun a' => ∀ x, Q .normal a' (F x)) os a → wpQuiet P l.toArray (fun w' => ∃ x, w' = F x) (fun a' => ∀ w', (∃ x, w' = F x) → Q .normal a' w') os a := by
    intro os
    induction os with
    | nil => intro a h w' ⟨x, hx⟩; subst hx; exact h x
    | cons o os ih =>
      intro a h
      unfold wpQuiet at h ⊢
      split
      · rename_i hw; rw [if_pos hw] at h; exact Oper.quiet_mono ih h
      · rename_i hw; rw [if_neg hw] at h; exact ih _ h
  simpa using this _ _ h
theorem wp_family_tail {id : Nat} {Q : Exit → Act → World → Prop} {a : Act} {w : World} {l : List Oper} (n : Nat) (hm : P.follows .mixedOrders = true) (hB : Region.lexTailB .any l.toArray n = true) (F : X → World) (x0 : X) (h0 : F x0 = w.drew)
    (h : wpQuiet P l.toArray (fun w' => ∃ x, w' = F x) (fun a' => ∀ x, wpList P l.toArray Q (l.drop n) a' (F x)) (l.take n) a) : (Code.region id l.toArray true).wp P Q a w := by
  refine wp_class_tail (C := fun w' => ∃ x, w' = F x) n hm hB ⟨x0, h0.symm⟩ ?_
  have : ∀ (os : List Oper) (a : Act), wpQuiet P l.toArray (fun w' => ∃ x, w' = F x) (fun a' => ∀ x, wpList P l.toArray Q (l.drop n) a' (F x)) os a → wpQuiet P l.toArray (fun w' => ∃ x, w' = F x) (fun a' => ∀ w', (∃ x, w' = F x) → wpList P l.toArray Q (l.drop n) a' w') os a := by
    intro os
    induction os with
    | nil => intro a h w' ⟨x, hx⟩; subst hx; exact h x
    | cons o os ih =>
      intro a h
      unfold wpQuiet at h ⊢
      split
      · rename_i hw; rw [if_pos hw] at h; exact Oper.quiet_mono ih h
      · rename_i hw; rw [if_neg hw] at h; exact ih _ h
  exact this _ _ h
end
/-- the family of all worlds in which what was there before is as it was -/
structure Fam (w : World) {X : Type} (F : X → World) : Prop where
  ne : Nonempty X
  own : ∀ x, Only (fun _ => False) w (F x)
  next : ∀ x W, Only (fun _ => False) (F x) W → ∃ y, W = F y
  start : ∃ x0, F x0 = w.drew
theorem fam (w : World) : ∃ (X : Type) (F : X → World), Fam w F :=
  ⟨{W : World // Only (fun _ => False) w W}, Subtype.val, ⟨⟨w, Only.refl _ _⟩⟩, fun x => x.2, fun x W o => ⟨⟨W, x.2.trans o (fun _ _ h => h)⟩, rfl⟩, ⟨w.drew, (Only.refl _ w).drew⟩, rfl⟩
section
variable {P : Program} {X : Type} {F : X → World} {w : World}
theorem Fam.region {id : Nat} {Q : Exit → Act → World → Prop} {a : Act} {l : List Oper} (h : Fam w F) (hm : P.follows .mixedOrders = true) (hB : Region.lexB .any l.toArray = true)
    (hq : wpQuiet P l.toArray (fun w' => ∃ x, w' = F x) (fun a' => ∀ x, Q .normal a' (F x)) l a) : (Code.region id l.toArray true).wp P Q a w := by
  obtain ⟨x0, h0⟩ := h.start
  exact wp_family hm hB F x0 h0 hq
theorem Fam.tail {id : Nat} {Q : Exit → Act → World → Prop} {a : Act} {l : List Oper} (h : Fam w F) (n : Nat) (hm : P.follows .mixedOrders = true) (hB : Region.lexTailB .any l.toArray n = true)
    (hq : wpQuiet P l.toArray (fun w' => ∃ x, w' = F x) (fun a' => ∀ x, wpList P l.toArray Q (l.drop n) a' (F x)) (l.take n) a) : (Code.region id l.toArray true).wp P Q a w := by
  obtain ⟨x0, h0⟩ := h.start
  exact wp_family_tail n hm hB F x0 h0 hq
/-- a call of such a region, by its contract -/
theorem Fam.call (h : Fam w F) {x : X} {f : FuncId} {args : Array Value} {v : Value}
    (hc : Calls P f args (F x) fun e w' => e = .returned v ∧ Only (fun _ => False) (F x) w') : Calls P f args (F x) fun e w'' => e = .returned v ∧ ∃ y, w'' = F y :=
  hc.mono fun _ _ ⟨h1, o⟩ => ⟨h1, h.next x _ o⟩
theorem Fam.call_drew (h : Fam w F) {x : X} {f : FuncId} {args : Array Value} {v : Value}
    (hc : Calls P f args (F x) fun e w' => e = .returned v ∧ ∃ n, w' = (F x).drewN n) : Calls P f args (F x) fun e w'' => e = .returned v ∧ ∃ y, w'' = F y :=
  h.call (hc.mono fun _ _ ⟨h1, n, hn⟩ => ⟨h1, by rw [hn]; exact (Only.refl _ _).drewN n⟩)
theorem Fam.call_same (h : Fam w F) {x : X} {f : FuncId} {args : Array Value} {v : Value}
    (hc : Calls P f args (F x) fun e w' => e = .returned v ∧ F x = w') : Calls P f args (F x) fun e w'' => e = .returned v ∧ ∃ y, w'' = F y :=
  h.call (hc.mono fun _ _ ⟨h1, hn⟩ => ⟨h1, by rw [← hn]; exact Only.refl _ _⟩)
theorem Fam.cell (h : Fam w F) {p : Addr} {v : Value} (hv : w.cell? p = some v) : ∀ x, (F x).cell? p = some v := fun x => (h.own x).cell hv (fun h => h)
theorem Fam.frozen (h : Fam w F) {g : Nat} {t : TypeId} {cs : List Value} (hg : At w g t cs) (i : Nat) : ∀ x, (F x).frozen? ⟨g, i, none⟩ = false := fun x => (hg.only (h.own x) (fun h => h)).frozen i
end
end Go.Proofs.YtjmdfipofgmakaaDoor
