/-
  The arguments of a statement as plain data: what a value of a type holds, in memory; the row of a statement out of its walk.
-/
import Derived.Test.YtjmdfipofgmakaaDoorRows
import Derived.Test.YtjmdfipofgmakaaDoorMem
import Derived.ProofKit
import Derived.OpenShut
import Derived.ShutString
import Derived.Deep.Slices
import Derived.SizedLaws
namespace Go.Proofs.YtjmdfipofgmakaaDoor
open Go.ChangeShapes Go.WideShapes Go.ChangeAt Go.RowKit
set_option linter.unusedVariables false
set_option linter.unusedSimpArgs false

/-- the types of arguments -/
inductive Ty where
  | bool
  | int (k : IntKind)
  | str
  | st (fs : List Ty)
  | sl (e : Ty)
  | arr (n : Nat) (e : Ty)

mutual
def Ty.size : Ty → Nat
  | .bool => 1
  | .int _ => 1
  | .str => 1
  | .st fs => Ty.sizes fs
  | .sl _ => 1
  | .arr n e => n * e.size
def Ty.sizes : List Ty → Nat
  | [] => 0
  | t :: r => t.size + Ty.sizes r
end

mutual
/-- a value of such a type, as plain data -/
def Ty.Val : Ty → Type
  | .bool => Bool
  | .int _ => Int
  | .str => ByteArray
  | .st fs => Ty.Vals fs
  | .sl e => List e.Val
  | .arr _ e => List e.Val
def Ty.Vals : List Ty → Type
  | [] => Unit
  | t :: r => t.Val × Ty.Vals r
end

abbrev nth {α : Type} (l : List α) (i : Nat) : Option α := l[i]?

mutual
/-- what the cells of a value hold -/
def Holds (w : World) : (t : Ty) → t.Val → List Value → Prop
  | .bool, b, cs => cs = [.bool b]
  | .int k, n, cs => cs = [.int k n] ∧ (Lit.int k n).wf = true
  | .str, s, cs => cs = [.string s] ∧ s.size ≤ maxLen
  | .st fs, v, cs => HoldsAll w fs v cs
  | .sl e, l, cs => (cs = [.slice none 0 0] ∧ l = []) ∨ ∃ (a : Addr) (cap : Nat), cs = [.slice (some a) (List.length l) cap] ∧ List.length l ≤ cap ∧ cap ≤ maxLen ∧
      ∀ (i : Nat) (x : e.Val), nth (α := e.Val) l i = some x → ∃ cs', cs'.length = e.size ∧ (∀ j v, cs'[j]? = some v → w.cell? (a.add (i * e.size + j)) = some v) ∧ Holds w e x cs'
  | .arr n e, l, cs => List.length l = n ∧ cs.length = n * e.size ∧ ∀ (i : Nat) (x : e.Val), nth (α := e.Val) l i = some x → Holds w e x ((cs.drop (i * e.size)).take e.size)
def HoldsAll (w : World) : (fs : List Ty) → Ty.Vals fs → List Value → Prop
  | [], _, cs => cs = []
  | t :: r, v, cs => Holds w t v.1 (cs.take t.size) ∧ HoldsAll w r v.2 (cs.drop t.size)
end

mutual
/-- does a type of the program have such a shape -/
def fits (P : Program) : Nat → Ty → TypeId → Bool
  | 0, _, _ => false
  | _ + 1, .bool, t => match P.underlying t with | some .bool => true | _ => false
  | _ + 1, .int k, t => match P.underlying t with | some (.int k') => decide (k' = k) | _ => false
  | _ + 1, .str, t => match P.underlying t with | some .string => true | _ => false
  | n + 1, .st fs, t => match P.underlying t with | some (.struct fields) => decide (P.cellsOf t = Ty.sizes fs) && fitsAll P n fs fields.toList 0 | _ => false
  | n + 1, .sl e, t => match P.underlying t with | some (.slice e') => decide (P.cellsOf e' = e.size) && fits P n e e' | _ => false
  | n + 1, .arr m e, t => match P.underlying t with | some (.array m' e') => decide (m' = m) && decide (P.cellsOf t = m * e.size) && decide (P.cellsOf e' = e.size) && fits P n e e' | _ => false
def fitsAll (P : Program) : Nat → List Ty → List Field → Nat → Bool
  | 0, _, _, _ => false
  | _ + 1, [], [], _ => true
  | n + 1, t :: r, f :: fs, o => decide (f.offset = o) && decide (P.cellsOf f.type = t.size) && fits P n t f.type && fitsAll P n r fs (o + t.size)
  | _ + 1, _, _, _ => false
end

section
variable {H : Type} {enc : TypeId × Value → H} {P : Program} {w : World} {base : Nat} {spare : Nat → Bool} {held : Bool}

theorem choose_list {α : Type} {p : Nat → α → Prop} : ∀ n : Nat, (∀ i, i < n → ∃ a, p i a) → ∃ l : List α, l.length = n ∧ ∀ i x, l[i]? = some x → p i x
  | 0, _ => ⟨[], rfl, fun i x h => by simp at h⟩
  | n + 1, h => by
    obtain ⟨l, hl, hp⟩ := choose_list n (fun i hi => h i (by omega))
    obtain ⟨a, ha⟩ := h n (by omega)
    refine ⟨l ++ [a], by simp [hl], fun i x hx => ?_⟩
    rcases Nat.lt_or_ge i n with hi | hi
    · rw [List.getElem?_append_left (by omega)] at hx
      exact hp i x hx
    · rw [List.getElem?_append_right (by omega)] at hx
      have e : i - l.length = 0 := by
        rcases Nat.eq_zero_or_pos (i - l.length) with h0 | h0
        · exact h0
        · rw [List.getElem?_eq_none (by simp; omega)] at hx; cases hx
      rw [e] at hx
      have : i = n := by omega
      subst this
      simp at hx
      subst hx
      exact ha

theorem holds_of_trod : ∀ n : Nat,
    (∀ (ty : Ty) (t : TypeId) (m : Nat) (cs : List Value) (x : DataW H × List MemPlace), fits P n ty t = true → DataW.trod enc P w base spare held m t cs = some x → ∃ v, Holds w ty v cs) ∧
    (∀ (fs : List Ty) (fields : List Field) (o m : Nat) (cs : List Value), fitsAll P n fs fields o = true → cs.length = o + Ty.sizes fs →
      (∀ (i : Nat) (f : Field), fields[i]? = some f → ∃ x, DataW.trod enc P w base spare held m f.type ((cs.drop f.offset).take (P.cellsOf f.type)) = some x) → ∃ v, HoldsAll w fs v (cs.drop o))
  | 0 => ⟨fun _ _ _ _ _ h => by simp [fits] at h, fun _ _ _ _ _ h => by simp [fitsAll] at h⟩
  | n + 1 => by
    obtain ⟨ih1, ih2⟩ := holds_of_trod n
    refine ⟨?_, ?_⟩
    · intro ty t m cs x hf h
      cases ty with
      | bool =>
        simp only [fits] at hf
        split at hf
        · rename_i hu
          obtain ⟨b, rfl, _⟩ := DataW.trod_bool hu h
          exact ⟨b, by simp [Holds]⟩
        · cases hf
      | int k =>
        simp only [fits] at hf
        split at hf
        · rename_i k' hu
          have e : k' = k := by simpa using hf
          subst e
          obtain ⟨b, rfl, _, hw⟩ := DataW.trod_int hu h
          exact ⟨b, by simp [Holds, hw]⟩
        · cases hf
      | str =>
        simp only [fits] at hf
        split at hf
        · rename_i hu
          obtain ⟨b, rfl, _, hw⟩ := DataW.trod_string hu h
          exact ⟨b, by simp [Holds, hw]⟩
        · cases hf
      | st fs =>
        simp only [fits] at hf
        split at hf
        · rename_i fields hu
          simp only [Bool.and_eq_true, decide_eq_true_eq] at hf
          obtain ⟨xs, m', rfl, _, hlen, hxl, hi⟩ := DataW.trod_struct hu h
          obtain ⟨v, hv⟩ := ih2 fs fields.toList 0 m' cs hf.2 (by rw [hlen, hf.1]; omega) (fun i f hif => by
            have hif' : fields[i]? = some f := by simpa using hif
            have hlt : i < xs.length := by rw [hxl]; exact (Array.getElem?_eq_some_iff.1 hif').1
            exact ⟨_, (hi i f hif').trans (List.getElem?_eq_getElem hlt)⟩)
          exact ⟨v, by simp only [Holds]; simpa using hv⟩
        · cases hf
      | sl e =>
        simp only [fits] at hf
        split at hf
        · rename_i e' hu
          simp only [Bool.and_eq_true, decide_eq_true_eq] at hf
          rcases Go.Deep.open_slice hu h with ⟨rfl, _⟩ | ⟨a, len, cap, mm, q, D, Pl, rfl, hb, hl, hm, hmm, _, hi⟩
          · exact ⟨([] : List e.Val), by simp [Holds]; rfl⟩
          · obtain ⟨l, hll, hp⟩ := choose_list (α := e.Val) (p := fun i x => ∃ cs', cs'.length = e.size ∧ (∀ j v, cs'[j]? = some v → w.cell? (a.add (i * e.size + j)) = some v) ∧ Holds w e x cs') len (fun i hil => by
              obtain ⟨cs', hc, ht⟩ := hi i (by rw [hmm]; split <;> omega)
              obtain ⟨v, hv⟩ := ih1 e e' q cs' _ hf.2 ht
              rw [hf.1] at hc
              obtain ⟨_, hcl, hat⟩ := World.cells?_some hc
              refine ⟨v, cs', hcl, fun j u hu => ?_, hv⟩
              have := hat j (by have := (List.getElem?_eq_some_iff.1 hu).1; omega)
              rw [Go.Deep.add_add] at this
              rw [this]
              exact hu)
            exact ⟨l, by simp only [Holds]; exact .inr ⟨a, cap, by rw [hll], by rw [hll]; exact hl, hm, fun i x hx => hp i x hx⟩⟩
        · cases hf
      | arr k e =>
        simp only [fits] at hf
        split at hf
        · rename_i m' e' hu
          simp only [Bool.and_eq_true, decide_eq_true_eq] at hf
          obtain ⟨⟨⟨rfl, h2⟩, h3⟩, h4⟩ := hf
          obtain ⟨xs, q, rfl, _, hlen, hxl, hi⟩ := DataW.trod_array hu h
          obtain ⟨l, hll, hp⟩ := choose_list (α := e.Val) (p := fun i x => Holds w e x ((cs.drop (i * e.size)).take e.size)) m' (fun i hil => by
            have ht := hi i hil
            rw [h3, List.getElem?_eq_getElem (by omega)] at ht
            exact ih1 e e' q _ _ h4 ht)
          exact ⟨l, by simp only [Holds]; exact ⟨hll, by rw [hlen, h2], fun i x hx => hp i x hx⟩⟩
        · cases hf
    · intro fs fields o m cs hf hcl hx
      match fs, fields with
      | [], [] => exact ⟨(), by simp only [HoldsAll]; rw [List.drop_eq_nil_iff]; simp [Ty.sizes] at hcl; omega⟩
      | [], _ :: _ => simp [fitsAll] at hf
      | _ :: _, [] => simp [fitsAll] at hf
      | ty :: r, f :: fl =>
        simp only [fitsAll, Bool.and_eq_true, decide_eq_true_eq] at hf
        obtain ⟨⟨⟨h1, h2⟩, h3⟩, h4⟩ := hf
        simp only [Ty.sizes] at hcl
        obtain ⟨x, hx0⟩ := hx 0 f rfl
        rw [h1, h2] at hx0
        obtain ⟨v, hv⟩ := ih1 ty f.type m _ x h3 hx0
        obtain ⟨u, hu⟩ := ih2 r fl (o + ty.size) m cs h4 (by omega) (fun i f' hi => hx (i + 1) f' (by simpa using hi))
        refine ⟨(v, u), ?_⟩
        simp only [HoldsAll]
        exact ⟨hv, by rw [List.drop_drop]; exact hu⟩
end

theorem holds_below {w w' : World} (hb : ∀ a v, w.cell? a = some v → w'.cell? a = some v) : ∀ (ty : Ty) (v : ty.Val) (cs : List Value), Holds w ty v cs → Holds w' ty v cs := by
  intro ty
  apply Ty.rec (motive_1 := fun ty => ∀ (v : ty.Val) (cs : List Value), Holds w ty v cs → Holds w' ty v cs) (motive_2 := fun fs => ∀ (v : Ty.Vals fs) (cs : List Value), HoldsAll w fs v cs → HoldsAll w' fs v cs)
  · intro v cs h; simpa only [Holds] using h
  · intro k v cs h; simpa only [Holds] using h
  · intro v cs h; simpa only [Holds] using h
  · intro fs ih v cs h; simp only [Holds] at h ⊢; exact ih v cs h
  · intro e ih v cs h
    simp only [Holds] at h ⊢
    rcases h with h | ⟨a, cap, h1, h2, h3, h4⟩
    · exact .inl h
    · refine .inr ⟨a, cap, h1, h2, h3, fun i x hx => ?_⟩
      obtain ⟨cs', g1, g2, g3⟩ := h4 i x hx
      exact ⟨cs', g1, fun j u hu => hb _ _ (g2 j u hu), ih _ _ g3⟩
  · intro n e ih v cs h
    simp only [Holds] at h ⊢
    exact ⟨h.1, h.2.1, fun i x hx => ih _ _ (h.2.2 i x hx)⟩
  · intro v cs h; simpa only [HoldsAll] using h
  · intro t r ih1 ih2 v cs h
    simp only [HoldsAll] at h ⊢
    exact ⟨ih1 _ _ h.1, ih2 _ _ h.2⟩

end Go.Proofs.YtjmdfipofgmakaaDoor
