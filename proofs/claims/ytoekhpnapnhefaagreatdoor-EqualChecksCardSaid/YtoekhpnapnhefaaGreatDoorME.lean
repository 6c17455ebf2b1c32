/-
  The arguments of a statement as plain data: what a value of a type holds, in memory; the row of a statement out of its walk.
  The row of a statement out of its walk, once for all statements.
  A world for the witnesses: the library's variables as their initialisers lay them.
  The facts of a row's variables, as the contracts ask them.
  Arguments of statements, opened.
-/
import Derived.ProofKit
import Derived.OpenShut
import Derived.ShutString
import Derived.Deep.Slices
import Derived.SizedLaws
import Derived.Deep.DeepHandedRow
import Derived.ChangeMaps5
import Derived.Lib.LaidTab
import Derived.Shelf.Vars
import Derived.Stop.LaidErr
import Derived.Test.YtoekhpnapnhefaaGreatDoorRows
import Derived.Test.YtoekhpnapnhefaaGreatDoorMA
import Derived.Test.YtoekhpnapnhefaaGreatDoorCards
import Derived.Test.YtoekhpnapnhefaaGreatDoorTie
import Derived.Test.YtoekhpnapnhefaaGreatDoorMD
namespace Go.Proofs.YtoekhpnapnhefaaGreatDoor
open Go.ChangeShapes Go.WideShapes Go.ChangeAt Go.RowKit
set_option linter.unusedVariables false
set_option linter.unusedSimpArgs false

/-- the types of arguments -/
inductive Ty where
  | bool
  | int (k : IntKind)
  | str
  | st (fs : List Ty)
  | sl (e : Ty)
  | arr (n : Nat) (e : Ty)

mutual
def Ty.size : Ty → Nat
  | .bool => 1
  | .int _ => 1
  | .str => 1
  | .st fs => Ty.sizes fs
  | .sl _ => 1
  | .arr n e => n * e.size
def Ty.sizes : List Ty → Nat
  | [] => 0
  | t :: r => t.size + Ty.sizes r
end

mutual
/-- a value of such a type, as plain data -/
def Ty.Val : Ty → Type
  | .bool => Bool
  | .int _ => Int
  | .str => ByteArray
  | .st fs => Ty.Vals fs
  | .sl e => List e.Val
  | .arr _ e => List e.Val
def Ty.Vals : List Ty → Type
  | [] => Unit
  | t :: r => t.Val × Ty.Vals r
end

abbrev nth {α : Type} (l : List α) (i : Nat) : Option α := l[i]?

mutual
/-- what the cells of a value hold -/
def Holds (w : World) : (t : Ty) → t.Val → List Value → Prop
  | .bool, b, cs => cs = [.bool b]
  | .int k, n, cs => cs = [.int k n] ∧ (Lit.int k n).wf = true
  | .str, s, cs => cs = [.string s] ∧ s.size ≤ maxLen
  | .st fs, v, cs => HoldsAll w fs v cs
  | .sl e, l, cs => (cs = [.slice none 0 0] ∧ l = []) ∨ ∃ (a : Addr) (cap : Nat), cs = [.slice (some a) (List.length l) cap] ∧ List.length l ≤ cap ∧ cap ≤ maxLen ∧
      ∀ (i : Nat) (x : e.Val), nth (α := e.Val) l i = some x → ∃ cs', cs'.length = e.size ∧ (∀ j v, cs'[j]? = some v → w.cell? (a.add (i * e.size + j)) = some v) ∧ Holds w e x cs'
  | .arr n e, l, cs => List.length l = n ∧ cs.length = n * e.size ∧ ∀ (i : Nat) (x : e.Val), nth (α := e.Val) l i = some x → Holds w e x ((cs.drop (i * e.size)).take e.size)
def HoldsAll (w : World) : (fs : List Ty) → Ty.Vals fs → List Value → Prop
  | [], _, cs => cs = []
  | t :: r, v, cs => Holds w t v.1 (cs.take t.size) ∧ HoldsAll w r v.2 (cs.drop t.size)
end

mutual
/-- does a type of the program have such a shape -/
def fits (P : Program) : Nat → Ty → TypeId → Bool
  | 0, _, _ => false
  | _ + 1, .bool, t => match P.underlying t with | some .bool => true | _ => false
  | _ + 1, .int k, t => match P.underlying t with | some (.int k') => decide (k' = k) | _ => false
  | _ + 1, .str, t => match P.underlying t with | some .string => true | _ => false
  | n + 1, .st fs, t => match P.underlying t with | some (.struct fields) => decide (P.cellsOf t = Ty.sizes fs) && fitsAll P n fs fields.toList 0 | _ => false
  | n + 1, .sl e, t => match P.underlying t with | some (.slice e') => decide (P.cellsOf e' = e.size) && fits P n e e' | _ => false
  | n + 1, .arr m e, t => match P.underlying t with | some (.array m' e') => decide (m' = m) && decide (P.cellsOf t = m * e.size) && decide (P.cellsOf e' = e.size) && fits P n e e' | _ => false
def fitsAll (P : Program) : Nat → List Ty → List Field → Nat → Bool
  | 0, _, _, _ => false
  | _ + 1, [], [], _ => true
  | n + 1, t :: r, f :: fs, o => decide (f.offset = o) && decide (P.cellsOf f.type = t.size) && fits P n t f.type && fitsAll P n r fs (o + t.size)
  | _ + 1, _, _, _ => false
end

section
variable {H : Type} {enc : TypeId × Value → H} {P : Program} {w : World} {base : Nat} {spare : Nat → Bool} {held : Bool}

theorem choose_list {α : Type} {p : Nat → α → Prop} : ∀ n : Nat, (∀ i, i < n → ∃ a, p i a) → ∃ l : List α, l.length = n ∧ ∀ i x, l[i]? = some x → p i x
  | 0, _ => ⟨[], rfl, fun i x h => by simp at h⟩
  | n + 1, h => by
    obtain ⟨l, hl, hp⟩ := choose_list n (fun i hi => h i (by omega))
    obtain ⟨a, ha⟩ := h n (by omega)
    refine ⟨l ++ [a], by simp [hl], fun i x hx => ?_⟩
    rcases Nat.lt_or_ge i n with hi | hi
    · rw [List.getElem?_append_left (by omega)] at hx
      exact hp i x hx
    · rw [List.getElem?_append_right (by omega)] at hx
      have e : i - l.length = 0 := by
        rcases Nat.eq_zero_or_pos (i - l.length) with h0 | h0
        · exact h0
        · rw [List.getElem?_eq_none (by simp; omega)] at hx; cases hx
      rw [e] at hx
      have : i = n := by omega
      subst this
      simp at hx
      subst hx
      exact ha

theorem holds_of_trod : ∀ n : Nat,
    (∀ (ty : Ty) (t : TypeId) (m : Nat) (cs : List Value) (x : DataW H × List MemPlace), fits P n ty t = true → DataW.trod enc P w base spare held m t cs = some x → ∃ v, Holds w ty v cs) ∧
    (∀ (fs : List Ty) (fields : List Field) (o m : Nat) (cs : List Value), fitsAll P n fs fields o = true → cs.length = o + Ty.sizes fs →
      (∀ (i : Nat) (f : Field), fields[i]? = some f → ∃ x, DataW.trod enc P w base spare held m f.type ((cs.drop f.offset).take (P.cellsOf f.type)) = some x) → ∃ v, HoldsAll w fs v (cs.drop o))
  | 0 => ⟨fun _ _ _ _ _ h => by simp [fits] at h, fun _ _ _ _ _ h => by simp [fitsAll] at h⟩
  | n + 1 => by
    obtain ⟨ih1, ih2⟩ := holds_of_trod n
    refine ⟨?_, ?_⟩
    · intro ty t m cs x hf h
      cases ty with
      | bool =>
        simp only [fits] at hf
        split at hf
        · rename_i hu
          obtain ⟨b, rfl, _⟩ := DataW.trod_bool hu h
          exact ⟨b, by simp [Holds]⟩
        · cases hf
      | int k =>
        simp only [fits] at hf
        split at hf
        · rename_i k' hu
          have e : k' = k := by simpa using hf
          subst e
          obtain ⟨b, rfl, _, hw⟩ := DataW.trod_int hu h
          exact ⟨b, by simp [Holds, hw]⟩
        · cases hf
      | str =>
        simp only [fits] at hf
        split at hf
        · rename_i hu
          obtain ⟨b, rfl, _, hw⟩ := DataW.trod_string hu h
          exact ⟨b, by simp [Holds, hw]⟩
        · cases hf
      | st fs =>
        simp only [fits] at hf
        split at hf
        · rename_i fields hu
          simp only [Bool.and_eq_true, decide_eq_true_eq] at hf
          obtain ⟨xs, m', rfl, _, hlen, hxl, hi⟩ := DataW.trod_struct hu h
          obtain ⟨v, hv⟩ := ih2 fs fields.toList 0 m' cs hf.2 (by rw [hlen, hf.1]; omega) (fun i f hif => by
            have hif' : fields[i]? = some f := by simpa using hif
            have hlt : i < xs.length := by rw [hxl]; exact (Array.getElem?_eq_some_iff.1 hif').1
            exact ⟨_, (hi i f hif').trans (List.getElem?_eq_getElem hlt)⟩)
          exact ⟨v, by simp only [Holds]; simpa using hv⟩
        · cases hf
      | sl e =>
        simp only [fits] at hf
        split at hf
        · rename_i e' hu
          simp only [Bool.and_eq_true, decide_eq_true_eq] at hf
          rcases Go.Deep.open_slice hu h with ⟨rfl, _⟩ | ⟨a, len, cap, mm, q, D, Pl, rfl, hb, hl, hm, hmm, _, hi⟩
          · exact ⟨([] : List e.Val), by simp [Holds]; rfl⟩
          · obtain ⟨l, hll, hp⟩ := choose_list (α := e.Val) (p := fun i x => ∃ cs', cs'.length = e.size ∧ (∀ j v, cs'[j]? = some v → w.cell? (a.add (i * e.size + j)) = some v) ∧ Holds w e x cs') len (fun i hil => by
              obtain ⟨cs', hc, ht⟩ := hi i (by rw [hmm]; split <;> omega)
              obtain ⟨v, hv⟩ := ih1 e e' q cs' _ hf.2 ht
              rw [hf.1] at hc
              obtain ⟨_, hcl, hat⟩ := World.cells?_some hc
              refine ⟨v, cs', hcl, fun j u hu => ?_, hv⟩
              have := hat j (by have := (List.getElem?_eq_some_iff.1 hu).1; omega)
              rw [Go.Deep.add_add] at this
              rw [this]
              exact hu)
            exact ⟨l, by simp only [Holds]; exact .inr ⟨a, cap, by rw [hll], by rw [hll]; exact hl, hm, fun i x hx => hp i x hx⟩⟩
        · cases hf
      | arr k e =>
        simp only [fits] at hf
        split at hf
        · rename_i m' e' hu
          simp only [Bool.and_eq_true, decide_eq_true_eq] at hf
          obtain ⟨⟨⟨rfl, h2⟩, h3⟩, h4⟩ := hf
          obtain ⟨xs, q, rfl, _, hlen, hxl, hi⟩ := DataW.trod_array hu h
          obtain ⟨l, hll, hp⟩ := choose_list (α := e.Val) (p := fun i x => Holds w e x ((cs.drop (i * e.size)).take e.size)) m' (fun i hil => by
            have ht := hi i hil
            rw [h3, List.getElem?_eq_getElem (by omega)] at ht
            exact ih1 e e' q _ _ h4 ht)
          exact ⟨l, by simp only [Holds]; exact ⟨hll, by rw [hlen, h2], fun i x hx => hp i x hx⟩⟩
        · cases hf
    · intro fs fields o m cs hf hcl hx
      match fs, fields with
      | [], [] => exact ⟨(), by simp only [HoldsAll]; rw [List.drop_eq_nil_iff]; simp [Ty.sizes] at hcl; omega⟩
      | [], _ :: _ => simp [fitsAll] at hf
      | _ :: _, [] => simp [fitsAll] at hf
      | ty :: r, f :: fl =>
        simp only [fitsAll, Bool.and_eq_true, decide_eq_true_eq] at hf
        obtain ⟨⟨⟨h1, h2⟩, h3⟩, h4⟩ := hf
        simp only [Ty.sizes] at hcl
        obtain ⟨x, hx0⟩ := hx 0 f rfl
        rw [h1, h2] at hx0
        obtain ⟨v, hv⟩ := ih1 ty f.type m _ x h3 hx0
        obtain ⟨u, hu⟩ := ih2 r fl (o + ty.size) m cs h4 (by omega) (fun i f' hi => hx (i + 1) f' (by simpa using hi))
        refine ⟨(v, u), ?_⟩
        simp only [HoldsAll]
        exact ⟨hv, by rw [List.drop_drop]; exact hu⟩
end

theorem holds_below {w w' : World} (hb : ∀ a v, w.cell? a = some v → w'.cell? a = some v) : ∀ (ty : Ty) (v : ty.Val) (cs : List Value), Holds w ty v cs → Holds w' ty v cs := by
  intro ty
  apply Ty.rec (motive_1 := fun ty => ∀ (v : ty.Val) (cs : List Value), Holds w ty v cs → Holds w' ty v cs) (motive_2 := fun fs => ∀ (v : Ty.Vals fs) (cs : List Value), HoldsAll w fs v cs → HoldsAll w' fs v cs)
  · intro v cs h; simpa only [Holds] using h
  · intro k v cs h; simpa only [Holds] using h
  · intro v cs h; simpa only [Holds] using h
  · intro fs ih v cs h; simp only [Holds] at h ⊢; exact ih v cs h
  · intro e ih v cs h
    simp only [Holds] at h ⊢
    rcases h with h | ⟨a, cap, h1, h2, h3, h4⟩
    · exact .inl h
    · refine .inr ⟨a, cap, h1, h2, h3, fun i x hx => ?_⟩
      obtain ⟨cs', g1, g2, g3⟩ := h4 i x hx
      exact ⟨cs', g1, fun j u hu => hb _ _ (g2 j u hu), ih _ _ g3⟩
  · intro n e ih v cs h
    simp only [Holds] at h ⊢
    exact ⟨h.1, h.2.1, fun i x hx => ih _ _ (h.2.2 i x hx)⟩
  · intro v cs h; simpa only [HoldsAll] using h
  · intro t r ih1 ih2 v cs h
    simp only [HoldsAll] at h ⊢
    exact ⟨ih1 _ _ h.1, ih2 _ _ h.2⟩

end Go.Proofs.YtoekhpnapnhefaaGreatDoor

namespace Go.Proofs.YtoekhpnapnhefaaGreatDoor
open Go.ChangeShapes Go.WideShapes Go.ChangeAt Go.RowKit
set_option linter.unusedVariables false
set_option linter.unusedSimpArgs false

theorem Tryz.own : ownKnob Tryz.prog.godebug = none := by kernel_rfl
theorem Tryz.laidOut : laidOutB Tryz.prog = true := by kernel_rfl

/-- a value with these cells -/
def IsV : Ty → List Value → Value → Prop
  | .st _, cs, v => v = .agg cs.toArray
  | .arr _ _, cs, v => v = .agg cs.toArray
  | _, cs, v => cs = [v]
def ArgsHold (w : World) : (tys : List Ty) → Ty.Vals tys → List Value → Prop
  | [], _, args => args = []
  | ty :: r, v, args => ∃ cs a rest, args = a :: rest ∧ Holds w ty v.1 cs ∧ IsV ty cs a ∧ ArgsHold w r v.2 rest
def fitsL (P : Program) : List Ty → List TypeId → Bool
  | [], [] => true
  | ty :: r, t :: ts => fits P 20 ty t && fitsL P r ts
  | _, _ => false

section
variable {H : Type} {enc : TypeId × Value → H} {P : Program} {w : World}
theorem arg_of2 {ty : Ty} {t : TypeId} {r : Reach} {b : Nat} {v : Value} {sp : Nat → Bool} {hd : Bool} {d : DataW H} {p : List MemPlace} (hf : fits P 20 ty t = true) (hok : Value.okWide P w r b t v) (h : DataW.Trod enc P w 0 sp hd t v d p) :
    ∃ (x : ty.Val) (cs : List Value), Holds w ty x cs ∧ IsV ty cs v ∧ cs = v.cells.toList := by
  obtain ⟨m, hm⟩ := h
  obtain ⟨x, hx⟩ := (holds_of_trod 20).1 ty t m _ _ hf hm
  refine ⟨x, _, hx, ?_, rfl⟩
  cases ty with
  | bool =>
    simp only [fits] at hf
    split at hf
    · rename_i hu
      obtain ⟨q, rfl⟩ := okWide_bool hu hok
      simp [IsV, Value.cells]
    · cases hf
  | int k =>
    simp only [fits] at hf
    split at hf
    · rename_i k' hu
      obtain ⟨q, rfl⟩ := okWide_int hu hok
      simp [IsV, Value.cells]
    · cases hf
  | str =>
    simp only [fits] at hf
    split at hf
    · rename_i hu
      obtain ⟨q, rfl⟩ := okWide_string hu hok
      simp [IsV, Value.cells]
    · cases hf
  | st fs =>
    simp only [fits] at hf
    split at hf
    · rename_i fields hu
      obtain ⟨q, rfl, _⟩ := okWide_struct hu hok
      simp [IsV, Value.cells]
    · cases hf
  | sl e =>
    simp only [fits] at hf
    split at hf
    · rename_i e' hu
      obtain ⟨a, l, c, rfl⟩ := okWide_slice hu hok
      simp [IsV, Value.cells]
    · cases hf
  | arr n e =>
    simp only [fits] at hf
    split at hf
    · rename_i m' e' hu
      simp only [Value.okWide, hu] at hok
      obtain ⟨q, rfl, _⟩ := hok
      simp [IsV, Value.cells]
    · cases hf

theorem args_of {b0 : Nat} : ∀ (tys : List Ty) (ts : List TypeId) (args : List Value) (ds : List (DataW H)) (p : List MemPlace), fitsL P tys ts = true →
    (∀ (j : Nat) t v, ts[j]? = some t → args[j]? = some v → Value.okWide P w .any b0 t v) → DataW.TrodAll enc P w 0 (fun _ => true) true ts args ds p → ∃ vals, ArgsHold w tys vals args
  | [], [], args, ds, p, _, _, h => by
    obtain ⟨rfl, rfl, rfl⟩ := trodAll_nil h
    exact ⟨(), by simp [ArgsHold]⟩
  | [], _ :: _, _, _, _, hf, _, _ => by simp [fitsL] at hf
  | _ :: _, [], _, _, _, hf, _, _ => by simp [fitsL] at hf
  | ty :: r, t :: ts, args, ds, p, hf, hok, h => by
    simp only [fitsL, Bool.and_eq_true] at hf
    obtain ⟨v, vs, d, ds', a, b, rfl, rfl, rfl, h1, h2⟩ := trodAll_cons h
    obtain ⟨x, cs, hx, hv, _⟩ := arg_of2 hf.1 (hok 0 t v rfl rfl) h1
    obtain ⟨vals, hvals⟩ := args_of r ts vs ds' b hf.2 (fun j t' v' h1 h2 => hok (j + 1) t' v' (by simpa using h1) (by simpa using h2)) h2
    exact ⟨(x, vals), by simp only [ArgsHold]; exact ⟨cs, v, vs, rfl, hx, hv, hvals⟩⟩

theorem trodAll_below (hl : laidOutB P = true) {W W' : World} (hb : Below W.heap.size W W') : ∀ (ts : List TypeId) (vs : List Value) (ds : List (DataW H)) (p : List MemPlace), ts.all (fun t => P.readableRec t && decide (t < P.types.size)) = true →
    (∀ x ∈ p, x.block < W.heap.size) → DataW.TrodAll enc P W 0 (fun _ => true) true ts vs ds p → DataW.TrodAll enc P W' 0 (fun b => decide (b < W.heap.size)) true ts vs ds p
  | [], vs, ds, p, _, _, h => by
    obtain ⟨rfl, rfl, rfl⟩ := trodAll_nil h
    exact trodAll_mk0
  | t :: ts, vs, ds, p, hr, hlt, h => by
    simp only [List.all_cons, Bool.and_eq_true, decide_eq_true_eq] at hr
    obtain ⟨v, vs', d, ds', a, b, rfl, rfl, rfl, h1, h2⟩ := trodAll_cons h
    exact ⟨a, b, Below.trod hl hr.1.1 hr.1.2 h1 hb (fun x hx => hlt x (by simp [hx])), trodAll_below hl hb ts vs' ds' b hr.2 (fun x hx => hlt x (by simp [hx])) h2, rfl⟩
end

/-- strings that come in, in structs too, take at most so many bytes -/
def SmallN : Nat → Bool → (ty : Ty) → ty.Val → Prop
  | 0, _, _, _ => True
  | _ + 1, _, .str, s => s.size ≤ reachBytes
  | n + 1, true, .st (t :: r), v => SmallN n true t v.1 ∧ SmallN n true (.st r) v.2
  | _ + 1, _, _, _ => True
def SmallV (ty : Ty) (v : ty.Val) : Prop := SmallN 20 true ty v
def SmallAll : (tys : List Ty) → Ty.Vals tys → Prop
  | [], _ => True
  | ty :: r, v => SmallV ty v.1 ∧ SmallAll r v.2
section
variable {H : Type} {enc : TypeId × Value → H} {P : Program} {w : World}
theorem weights_agg {t : TypeId} {fs : Array Field} (hu : P.underlying t = some (.struct fs)) (ds : List (DataW H)) : (DataW.agg ds).weights P t = DataW.weightsEach P (fs.toList.map (·.type)) ds := by
  rw [DataW.weights]
  rw [hu]
theorem small_of_trod {base : Nat} {spare : Nat → Bool} {held : Bool} : ∀ k : Nat,
    (∀ (ty : Ty) (t : TypeId) (m j : Nat) (cs : List Value) (x : DataW H × List MemPlace) (v : ty.Val), fits P j ty t = true → DataW.trod enc P w base spare held m t cs = some x → Holds w ty v cs → (x.1.weights P t).all (· ≤ reachBytes) = true → SmallN k true ty v) ∧
    (∀ (fs : List Ty) (fields : List Field) (o m j : Nat) (cs : List Value) (xs : List (DataW H × List MemPlace)) (v : Ty.Vals fs), fitsAll P j fs fields o = true → cs.length = o + Ty.sizes fs → xs.length = fields.length →
      (∀ (i : Nat) (f : Field), fields[i]? = some f → DataW.trod enc P w base spare held m f.type ((cs.drop f.offset).take (P.cellsOf f.type)) = xs[i]?) → HoldsAll w fs v (cs.drop o) →
      (DataW.weightsEach P (fields.map (·.type)) (xs.map (·.1))).all (· ≤ reachBytes) = true → SmallN k true (.st fs) v)
  | 0 => ⟨fun _ _ _ _ _ _ _ _ _ _ _ => by simp only [SmallN], fun _ _ _ _ _ _ _ _ _ _ _ _ _ _ => by simp only [SmallN]⟩
  | n + 1 => by
    obtain ⟨ih1, ih2⟩ := small_of_trod (base := base) (spare := spare) (held := held) n
    have B : ∀ (fs : List Ty) (fields : List Field) (o m j : Nat) (cs : List Value) (xs : List (DataW H × List MemPlace)) (v : Ty.Vals fs), fitsAll P j fs fields o = true → cs.length = o + Ty.sizes fs → xs.length = fields.length →
      (∀ (i : Nat) (f : Field), fields[i]? = some f → DataW.trod enc P w base spare held m f.type ((cs.drop f.offset).take (P.cellsOf f.type)) = xs[i]?) → HoldsAll w fs v (cs.drop o) →
      (DataW.weightsEach P (fields.map (·.type)) (xs.map (·.1))).all (· ≤ reachBytes) = true → SmallN (n + 1) true (.st fs) v := by
      intro fs fields o m j cs xs v hf hcl hxl hx hh hwt
      match j, fs, fields, xs, v, hf, hcl, hxl, hx, hh, hwt with
      | 0, _, _, _, _, hf, _, _, _, _, _ => simp [fitsAll] at hf
      | _ + 1, [], [], _, v, _, _, _, _, _, _ => simp only [SmallN]
      | _ + 1, [], _ :: _, _, _, hf, _, _, _, _, _ => simp [fitsAll] at hf
      | _ + 1, _ :: _, [], _, _, hf, _, _, _, _, _ => simp [fitsAll] at hf
      | _ + 1, _ :: _, _ :: _, [], _, _, _, hxl, _, _, _ => simp at hxl
      | j + 1, ty :: r, f :: fl, x :: xl, v, hf, hcl, hxl, hx, hh, hwt =>
        simp only [fitsAll, Bool.and_eq_true, decide_eq_true_eq] at hf
        obtain ⟨⟨⟨h1, h2⟩, h3⟩, h4⟩ := hf
        simp only [Ty.sizes] at hcl
        simp only [HoldsAll] at hh
        rw [List.map_cons, List.map_cons, DataW.weightsEach, List.all_append, Bool.and_eq_true] at hwt
        have hx0 := hx 0 f rfl
        rw [h1, h2] at hx0
        have g1 := ih1 ty f.type m j _ x v.1 h3 hx0 hh.1 hwt.1
        have g2 := ih2 r fl (o + ty.size) m j cs xl v.2 h4 (by omega) (by simpa using hxl) (fun i f' hi => by simpa using hx (i + 1) f' (by simpa using hi)) (by have := hh.2; rwa [List.drop_drop] at this) hwt.2
        show SmallN n true ty v.1 ∧ SmallN n true (.st r) v.2
        exact ⟨g1, g2⟩
    refine ⟨?_, B⟩
    intro ty t m j cs x v hf h hh hwt
    cases ty with
    | str =>
      cases j with
      | zero => simp [fits] at hf
      | succ j =>
        simp only [fits] at hf
        split at hf
        · rename_i hu
          obtain ⟨b, rfl, rfl, hw⟩ := DataW.trod_string hu h
          simp only [Holds] at hh
          have e := hh.1
          have e2 : Value.string b = Value.string v := by simpa using e
          injection e2 with e3
          subst e3
          have : (b.data.toList).length ≤ reachBytes := by simpa [DataW.weights] using hwt
          rw [Array.length_toList] at this
          show b.size ≤ reachBytes
          exact this
        · cases hf
    | st fs =>
      cases j with
      | zero => simp [fits] at hf
      | succ j =>
        simp only [fits] at hf
        split at hf
        · rename_i fields hu
          simp only [Bool.and_eq_true, decide_eq_true_eq] at hf
          obtain ⟨xs, m', rfl, rfl, hlen, hxl, hi⟩ := DataW.trod_struct hu h
          rw [weights_agg hu] at hwt
          simp only [Holds] at hh
          exact B fs fields.toList 0 m' j cs xs v hf.2 (by rw [hlen, hf.1]; omega) (by simpa using hxl) (fun i f hif => hi i f (by simpa using hif)) (by simpa using hh) hwt
        · cases hf
    | bool => simp only [SmallN]
    | int k => simp only [SmallN]
    | sl e => simp only [SmallN]
    | arr q e => simp only [SmallN]
set_option maxRecDepth 100000 in
theorem arg_small {ty : Ty} {t : TypeId} {r : Reach} {b : Nat} {v : Value} {sp : Nat → Bool} {hd : Bool} {d : DataW H} {p : List MemPlace} {x : ty.Val} (hf : fits P 20 ty t = true) (hok : Value.okWide P w r b t v) (h : DataW.Trod enc P w 0 sp hd t v d p)
    (hx : Holds w ty x v.cells.toList) (hwt : (d.weights P t).all (· ≤ reachBytes) = true) : SmallV ty x := by
  obtain ⟨m, hm⟩ := h
  exact (small_of_trod 20).1 ty t m 20 _ _ x hf hm hx hwt
set_option maxRecDepth 100000 in
theorem args_small {b0 : Nat} : ∀ (tys : List Ty) (ts : List TypeId) (args : List Value) (ds : List (DataW H)) (p : List MemPlace), fitsL P tys ts = true →
    (∀ (j : Nat) t v, ts[j]? = some t → args[j]? = some v → Value.okWide P w .any b0 t v) → DataW.TrodAll enc P w 0 (fun _ => true) true ts args ds p → (DataW.weightsEach P ts ds).all (· ≤ reachBytes) = true → ∃ vals, ArgsHold w tys vals args ∧ SmallAll tys vals
  | [], [], args, ds, p, _, _, h, _ => by
    obtain ⟨rfl, rfl, rfl⟩ := trodAll_nil h
    exact ⟨(), by simp [ArgsHold], trivial⟩
  | [], _ :: _, _, _, _, hf, _, _, _ => by simp [fitsL] at hf
  | _ :: _, [], _, _, _, hf, _, _, _ => by simp [fitsL] at hf
  | ty :: r, t :: ts, args, ds, p, hf, hok, h, hwt => by
    simp only [fitsL, Bool.and_eq_true] at hf
    obtain ⟨v, vs, d, ds', a, b, rfl, rfl, rfl, h1, h2⟩ := trodAll_cons h
    rw [DataW.weightsEach, List.all_append, Bool.and_eq_true] at hwt
    obtain ⟨x, cs, hx, hv, hcs⟩ := arg_of2 hf.1 (hok 0 t v rfl rfl) h1
    obtain ⟨vals, hvals, hsm⟩ := args_small r ts vs ds' b hf.2 (fun j t' v' h1 h2 => hok (j + 1) t' v' (by simpa using h1) (by simpa using h2)) h2 hwt.2
    exact ⟨(x, vals), by simp only [ArgsHold]; exact ⟨cs, v, vs, rfl, hx, hv, hvals⟩, arg_small hf.1 (hok 0 t v rfl rfl) h1 (hcs ▸ hx) hwt.1, hsm⟩
end

set_option maxRecDepth 100000 in
/-- the step of a row that lists variables -/
theorem row_lifted (N : FuncId) (fn : Func) (s : ChangeSpec) (conds : List PathCond) (laid : List (String × DataW Unit)) (tys : List Ty) (tb : TypeId) (os : Os) (started : os.Started) (H : Type) (enc : TypeId × Value → H) (F : Stop.Interp)
    (hfn : Tryz.prog.funcs[N]? = some fn) (hN : Tryz.prog.inits.idxOf? N = none) (hsv : s.vars = []) (hvt : (OpenSpec.ofChange s).bare.plain.varTypes Tryz.prog = []) (hres : fn.resultTypes = #[tb]) (htb : Tryz.prog.underlying tb = some .bool)
    (hread : fn.params.toList.all (fun t => Tryz.prog.readableRec t && decide (t < Tryz.prog.types.size)) = true) (hfits : fitsL Tryz.prog tys fn.params.toList = true)
    (hspec : ∀ ds : List (DataW H), ds.length = fn.params.size → s.fn H ds = { results := [.lit (.bool true)], args := ds })
    (witness : ∃ (w : World) (tape : Tape) (i : Input), w.os = os ∧ (w.forCall tape i).Shaped Tryz.checked.prog ∧ i.vars = [] ∧ Input.okWide Tryz.checked.prog (w.forCall tape i) .any w.heap.size N i ∧
      (OpenSpec.ofChange s).preRow enc Tryz.checked.prog fn conds false laid (w.forCall tape i).memory i.args ∧ ({} : Assume).holds Tryz.checked.prog (lone (Frame.enter Tryz.checked.prog N i.args .normal) [] (w.forCall tape i)))
    (walk : ∀ (W : World) (vals : Ty.Vals tys) (args : List Value), ArgsHold W tys vals args → SmallAll tys vals → laidMetH Tryz.prog laid W → W.ShapedOpen Tryz.prog → Calls Tryz.prog N args.toArray W fun e W' => e = .returned (.bool true) ∧ Below W.heap.size W W') :
    ReturnsInHanded {} Tryz.checked os N .any ((OpenSpec.ofChange s).preRow enc Tryz.prog fn conds false laid) (((OpenSpec.ofChange s).at F).post enc Tryz.prog fn false true false false) := by
  refine returnsInHanded_of_row (C := Tryz.checked) (s := OpenSpec.ofChange s) Tryz.own started hN hfn witness ?_
  intro W base args ds gs before hval hW _ _ hwt hL hSO _
  have hW' := hW
  obtain ⟨p, q, hA0, hV, rfl, hfz, hnd⟩ := hW
  have hA : DataW.TrodAll enc Tryz.prog W 0 (fun _ => true) true fn.params.toList args.toList ds p := hA0
  rw [show (OpenSpec.ofChange s).vars = [] from hsv] at hV
  obtain ⟨rfl, rfl⟩ := trodVars_none hV
  simp only [List.append_nil] at hW' ⊢
  have hwt' : (DataW.weightsEach Tryz.prog fn.params.toList ds).all (· ≤ reachBytes) = true := by
    have e : (OpenSpec.ofChange s).bare.plain.varTypes Tryz.checked.prog = [] := hvt
    rw [e, List.append_nil, List.append_nil] at hwt
    exact hwt
  obtain ⟨vals, hvals, hsm⟩ := args_small tys fn.params.toList args.toList ds p hfits (fun j t v h1 h2 => by
    exact hval j t v (by simpa using h1) (by simpa using h2)) hA hwt'
  have hlt : ∀ x ∈ p, x.block < W.heap.size := fun x hx => hW'.lt x hx
  have hlen : ds.length = fn.params.size := by
    have : ∀ (ts : List TypeId) (vs : List Value) (ds : List (DataW H)) (p : List MemPlace), DataW.TrodAll enc Tryz.prog W 0 (fun _ => true) true ts vs ds p → ds.length = ts.length := by
      intro ts
      induction ts with
      | nil => intro vs ds p h; obtain ⟨_, rfl, _⟩ := trodAll_nil h; rfl
      | cons t ts ih =>
        intro vs ds p h
        obtain ⟨v, vs', d, ds', a, b, rfl, rfl, rfl, h1, h2⟩ := trodAll_cons h
        simp [ih _ _ _ h2]
    simpa using this _ _ _ _ hA
  refine (walk W vals args.toList hvals hsm hL hSO).mono fun e W' ⟨he, hb⟩ => ?_
  have hpost : s.post enc Tryz.prog fn false true false false W args (.bool true) W' := by
    refine ⟨ds, [], p, [], p, [], hW', ?_, ?_, ?_, hb.frame _, fun h => by cases h⟩
    · rw [List.append_nil, hspec ds hlen, hres]
      exact trodAll_mk1 (shut_bool htb _)
    · rw [List.append_nil, hspec ds hlen]
      exact trodAll_below Tryz.laidOut hb _ _ _ _ hread hlt hA
    · rw [List.append_nil, hspec ds hlen, hsv]
      trivial
  exact ⟨.bool true, he, hpost⟩

end Go.Proofs.YtoekhpnapnhefaaGreatDoor

namespace Go.Proofs.YtoekhpnapnhefaaGreatDoor
open Go.ChangeShapes Go.WideShapes Go.ChangeAt Go.RowKit
set_option linter.unusedVariables false
set_option linter.unusedSimpArgs false

/-- the cells of a table of ints -/
def cellsD : DataW Unit → Array Value
  | .agg ps => (ps.map fun | .lit (.int k z) => Value.int k z | _ => Value.int .u8 0).toArray
  | _ => #[]
abbrev textR : ByteArray := { data := #[118, 97, 108, 117, 101, 32, 111, 117, 116, 32, 111, 102, 32, 114, 97, 110, 103, 101] }
abbrev textS : ByteArray := { data := #[105, 110, 118, 97, 108, 105, 100, 32, 115, 121, 110, 116, 97, 120] }
noncomputable def low : Nat := (World.holding Tryz.prog default ⟨#[], #[], []⟩).heap.size
def setC (cs : Array Value) : Obj → Obj
  | .cells _ t fr => .cells cs t fr
  | o => o
noncomputable def laidWorld (os : Os) : World :=
  let w0 := World.holding Tryz.prog os ⟨#[.cells #[.string textR] 216, .cells #[.string textS] 216], #[], []⟩
  { w0 with heap := ((((w0.heap.modify 3 (setC #[.iface 214 (.pointer (some ⟨low, 0, none⟩))])).modify 2 (setC #[.iface 214 (.pointer (some ⟨low + 1, 0, none⟩))])).modify
      5 (setC (cellsD Rows.laid_internal_strconv_uint64pow10))).modify 8 (setC (cellsD Rows.laid_math_bits_deBruijn32tab))).modify 9 (setC (cellsD Rows.laid_math_bits_deBruijn64tab)) }
/-- what rows of these chapters list -/
abbrev laid5 : List (String × DataW Unit) := [("math/bits.deBruijn32tab", Rows.laid_math_bits_deBruijn32tab), ("math/bits.deBruijn64tab", Rows.laid_math_bits_deBruijn64tab), ("internal/strconv.uint64pow10", Rows.laid_internal_strconv_uint64pow10), ("strconv.ErrRange", Rows.laid_strconv_ErrRange), ("strconv.ErrSyntax", Rows.laid_strconv_ErrSyntax)]
theorem laid_met5 (os : Os) (args : Array Value) : laidMet Tryz.prog laid5 ((laidWorld os).forCall (fun _ _ => 0) ⟨#[], args, []⟩).memory :=
  laidMet_of_run' 8 (by kernel_rfl) (by kernel_rfl)
end Go.Proofs.YtoekhpnapnhefaaGreatDoor

namespace Go.Proofs.YtoekhpnapnhefaaGreatDoor
open Go.ChangeShapes Go.WideShapes Go.ChangeAt Go.RowKit
set_option linter.unusedVariables false
set_option linter.unusedSimpArgs false

theorem gTab : Tryz.prog.globalNamed "internal/strconv.uint64pow10" = some 5 := by kernel_rfl
theorem gTabType : (Tryz.prog.globals[5]?).map (·.type) = some 211 := by kernel_rfl
theorem cellsT : Tryz.prog.cellsOf 211 = 20 := by kernel_rfl
theorem cellsU : Tryz.prog.cellsOf 98 = 1 := by kernel_rfl
theorem tabD : (Rows.laid_internal_strconv_uint64pow10 : DataW Unit) = Lib.tabData .u64 Lib.pow10Tab := by rfl
theorem tab_of {W : World} (h : laidMetH Tryz.prog laid5 W) : Tab W :=
  Lib.tabIs_of_head (rest := [("strconv.ErrRange", Rows.laid_strconv_ErrRange), ("strconv.ErrSyntax", Rows.laid_strconv_ErrSyntax)]) gTab gTabType Tryz.underlying211 Tryz.underlying98 cellsU cellsT
    (by
      have h' : laidMet Tryz.prog laid5 W := h
      have h2 := (laidMet.tail (laidMet.tail h'))
      rw [← tabD]
      exact h2)
theorem maxL_of {W : World} (h : W.ShapedOpen Tryz.prog) : MaxL W :=
  cell_of_shapedOpen_int h (of_decide_eq_true (by kernel_rfl)) (zero := #[.int .i64 0]) (t := 3) (by kernel_rfl) rfl (by kernel_rfl) (by kernel_rfl) Tryz.underlying3
end Go.Proofs.YtoekhpnapnhefaaGreatDoor

namespace Go.Proofs.YtoekhpnapnhefaaGreatDoor
open Go.ChangeShapes Go.WideShapes Go.ChangeAt Go.RowKit
set_option linter.unusedVariables false
set_option linter.unusedSimpArgs false

theorem i64_wf' {n : Int} (h : (Lit.int .i64 n).wf = true) : I64 n := by
  have : -9223372036854775808 ≤ n ∧ n ≤ 9223372036854775807 := by simpa [Lit.wf, IntKind.min, IntKind.max, IntKind.signed, IntKind.bits] using h
  exact this
theorem str_arg {W : World} {s : ByteArray} {c : List Value} {v : Value} (h : Holds W .str s c) (hv : IsV .str c v) : v = .string s := by
  obtain ⟨h1, _⟩ := h
  simp only [IsV] at hv
  rw [h1] at hv
  injection hv with e
  exact e.symm
theorem int_arg {W : World} {n : Int} {c : List Value} {v : Value} (h : Holds W (.int .i64) n c) (hv : IsV (.int .i64) c v) : v = .int .i64 n ∧ I64 n := by
  obtain ⟨h1, h2⟩ := h
  simp only [IsV] at hv
  rw [h1] at hv
  injection hv with e
  exact ⟨e.symm, i64_wf' h2⟩
theorem cons_of_take {cs : List Value} {a : Value} (h : cs.take 1 = [a]) : cs = a :: cs.drop 1 := by
  match cs, h with
  | x :: r, h => simp at h; simp [h]
def chTy : Ty := .st [.int .i64, .int .i64, .int .i64, .str, .bool]
theorem chg_arg {W : World} {x : chTy.Val} {c : List Value} {v : Value} (h : Holds W chTy x c) (hv : IsV chTy c v) :
    v = .agg #[.int .i64 x.1, .int .i64 x.2.1, .int .i64 x.2.2.1, .string x.2.2.2.1, .bool x.2.2.2.2.1] ∧ I64 x.1 ∧ I64 x.2.1 ∧ I64 x.2.2.1 := by
  obtain ⟨⟨h0, k0⟩, ⟨h1, k1⟩, ⟨h2, k2⟩, ⟨h3, _⟩, h4, h5⟩ := h
  have e0 := cons_of_take h0
  have e1 := cons_of_take h1
  have e2 := cons_of_take h2
  have e3 := cons_of_take h3
  have e4 := cons_of_take h4
  simp only [Ty.size] at e0 e1 e2 e3 e4 h5
  have hv' : v = .agg c.toArray := hv
  rw [h5] at e4
  rw [e4] at e3
  rw [e3] at e2
  rw [e2] at e1
  rw [e1] at e0
  exact ⟨by rw [hv', e0], i64_wf' k0, i64_wf' k1, i64_wf' k2⟩
theorem arr_ints {W : World} {n : Nat} {L : List Int} {c : List Value} {v : Value} (h : Holds W (.arr n (.int .i64)) L c) (hv : IsV (.arr n (.int .i64)) c v) : v = .agg (L.map (Value.int .i64)).toArray ∧ L.length = n ∧ ∀ x ∈ L, I64 x := by
  obtain ⟨h0, h2, h3⟩ := h
  have h1 : List.length (α := Int) L = n := h0
  clear h0
  have hn : ∀ i, i < n → ∃ x : Int, L[i]? = some x ∧ c[i]? = some (.int .i64 x) ∧ I64 x := fun i hi => by
    have hl : i < List.length (α := Int) L := by omega
    have hx : L[i]? = some L[i] := List.getElem?_eq_getElem hl
    obtain ⟨g1, g2⟩ := h3 i _ hx
    refine ⟨_, hx, ?_, i64_wf' g2⟩
    simp only [Ty.size, Nat.mul_one] at g1 h2
    have := congrArg (fun l : List Value => l[0]?) g1
    simp only [List.getElem?_take, List.getElem?_drop] at this
    simpa using this
  refine ⟨?_, h1, fun x hx => ?_⟩
  · have hc : c = L.map (Value.int .i64) := by
      apply List.ext_getElem?
      intro i
      rcases Nat.lt_or_ge i n with hi | hi
      · obtain ⟨x, e1, e2, _⟩ := hn i hi
        rw [e2, List.getElem?_map, e1]; rfl
      · have hl : c.length ≤ i := by simp only [Ty.size, Nat.mul_one] at h2; omega
        rw [List.getElem?_eq_none hl, List.getElem?_map, List.getElem?_eq_none (by omega)]; rfl
    have hv' : v = .agg c.toArray := hv
    rw [hv', hc]
  · obtain ⟨i, hi, rfl⟩ := List.getElem_of_mem hx
    obtain ⟨y, e1, _, e3⟩ := hn i (by omega)
    rw [List.getElem?_eq_getElem hi] at e1
    rw [Option.some.inj e1]; exact e3
end Go.Proofs.YtoekhpnapnhefaaGreatDoor
