/-
  Words for maps, over any program: a map in memory as a function of its keys; what looking up and storing do to it.
-/
import Derived.Test.YtmhkdpmcnaeaiaaMem
namespace Go.Proofs.Ytmhkdpmcnaeaiaa
open Go.RowKit
set_option linter.unusedVariables false

/-- how keys of a kind stand in memory -/
structure KeyKind (κ : Type) (P : Program) (kt : TypeId) (kv : κ → Value) : Prop where
  key : ∃ d, P.underlying kt = some d ∧ ∀ a, MapKept.IsKey d (kv a)
  inj : ∀ a b, kv a = kv b → a = b

theorem keyInt {P : Program} {kt : TypeId} {k : IntKind} (h : P.underlying kt = some (.int k)) : KeyKind Int P kt (fun n => .int k n) where
  key := ⟨_, h, fun a => by simp [MapKept.IsKey]⟩
  inj := fun a b h => by injection h
theorem keyStr {P : Program} {kt : TypeId} (h : P.underlying kt = some .string) : KeyKind ByteArray P kt (fun n => .string n) where
  key := ⟨_, h, fun a => by simp [MapKept.IsKey]⟩
  inj := fun a b h => by injection h
theorem KeyKind.same {κ : Type} [DecidableEq κ] {P : Program} {kt : TypeId} {kv : κ → Value} (K : KeyKind κ P kt kv) : ∃ d, P.underlying kt = some d ∧ (∀ a, MapKept.IsKey d (kv a)) ∧ ∀ a b, Instr.sameNow d (kv a) (kv b) = some (a == b) := by
  obtain ⟨d, h, hk⟩ := K.key
  refine ⟨d, h, hk, fun a b => ?_⟩
  obtain ⟨r, hr, hi⟩ := MapKept.sameNow_of_keys (hk a) (hk b)
  rw [hr]
  congr 1
  rw [Bool.eq_iff_iff, hi]
  simp only [beq_iff_eq]
  exact ⟨K.inj a b, fun h => by rw [h]⟩

section
variable {κ : Type} [DecidableEq κ] (kv : κ → Value)

def assoc (es : List (κ × Value)) (k : κ) : Option Value := (es.find? (fun p => k == p.1)).map (·.2)

/-- block b is a map that has, at each key, what f says -/
def MapF (w : World) (b : Nat) (f : κ → Option Value) : Prop :=
  ∃ (E : Array MapEntry) (clock : Nat) (es : List (κ × Value)), w.heap[b]? = some (.map E clock) ∧ E.toList.map (fun e => (e.key, e.val)) = es.map (fun p => (kv p.1, p.2)) ∧ ∀ k, assoc es k = f k

variable {kv} {w w' : World} {b : Nat} {f : κ → Option Value} {S : Nat → Prop}
theorem MapF.lt (h : MapF kv w b f) : b < w.heap.size := by
  obtain ⟨E, c, es, h, _⟩ := h
  exact (Array.getElem?_eq_some_iff.1 h).1
theorem MapF.only (h : MapF kv w b f) (ho : Only S w w') (hS : ¬ S b) : MapF kv w' b f := by
  have hlt := h.lt
  obtain ⟨E, c, es, h1, h2, h3⟩ := h
  exact ⟨E, c, es, (ho.same b hlt hS).trans h1, h2, h3⟩
theorem MapF.drewN (h : MapF kv w b f) (n : Nat) : MapF kv (w.drewN n) b f := h
theorem MapF.ne_at (h : MapF kv w b f) {g : Nat} {t : TypeId} {cs : List Value} (ha : At w g t cs) : g ≠ b := by
  rintro rfl
  obtain ⟨E, c, es, h1, _⟩ := h
  unfold At at ha
  rw [h1] at ha
  injection ha with ha
  cases ha
theorem MapF.new (kv : κ → Value) (w : World) : MapF kv (w.alloc (.map #[] 0)) w.heap.size (fun _ => none) :=
  ⟨#[], 0, [], by show (w.heap.push _)[w.heap.size]? = _; simp, rfl, fun _ => rfl⟩

theorem findNow_assoc {d : TypeDesc} (hd : ∀ a b, Instr.sameNow d (kv a) (kv b) = some (a == b)) (k : κ) : ∀ (E : List MapEntry) (es : List (κ × Value)) (i : Nat),
    E.map (fun e => (e.key, e.val)) = es.map (fun p => (kv p.1, p.2)) →
    ∃ r, Instr.findNow d (kv k) E i = some r ∧ r.map (·.2) = assoc es k ∧
      (∀ j v, r = some (j, v) → i ≤ j ∧ j - i < E.length ∧ ((E[j - i]?).map (·.key)) = some (kv k) ∧ ∀ v', ∀ k', assoc (es.set (j - i) (k, v')) k' = if k' = k then some v' else assoc es k')
  | [], [], i, _ => ⟨none, rfl, rfl, fun j v h => by cases h⟩
  | [], _ :: _, i, h => by simp at h
  | _ :: _, [], i, h => by simp at h
  | e :: E, p :: es, i, h => by
    simp only [List.map_cons, List.cons.injEq, Prod.mk.injEq] at h
    obtain ⟨⟨hk, hv⟩, hr⟩ := h
    by_cases hkp : k = p.1
    · refine ⟨some (i, e.val), ?_, ?_, ?_⟩
      · simp only [Instr.findNow, hk, hd]
        simp [hkp]
      · simp [assoc, hkp, hv]
      · intro j v hj
        simp only [Option.some.injEq, Prod.mk.injEq] at hj
        obtain ⟨rfl, rfl⟩ := hj
        refine ⟨Nat.le_refl _, by simp, by simp [hk, hkp], fun v' k' => ?_⟩
        by_cases hk' : k' = k
        · subst hk'; simp [assoc]
        · have : ¬ k' = p.1 := by rw [← hkp]; exact hk'
          simp [assoc, hk', this]
    · obtain ⟨r, h1, h2, h3⟩ := findNow_assoc hd k E es (i + 1) hr
      refine ⟨r, ?_, ?_, ?_⟩
      · simp only [Instr.findNow, hk, hd]
        have : (k == p.1) = false := by simpa using hkp
        rw [this]
        exact h1
      · rw [h2]; simp [assoc, hkp]
      · intro j v hj
        obtain ⟨g1, g2, g3, g4⟩ := h3 j v hj
        have e1 : j - i = (j - (i + 1)) + 1 := by omega
        refine ⟨by omega, by rw [e1]; simpa using g2, by rw [e1]; simpa using g3, fun v' k' => ?_⟩
        rw [e1, List.set_cons_succ]
        have := g4 v' k'
        by_cases hk' : k' = p.1
        · subst hk'
          rw [if_neg (fun h => hkp h.symm)]
          simp [assoc]
        · have e2 : ∀ l, assoc (p :: l) k' = assoc l k' := fun l => by simp [assoc, hk']
          rw [e2, e2, this]

theorem look_map {P : Program} {t kt e : TypeId} (K : KeyKind κ P kt kv) (ht : P.underlying t = some (.map kt e)) {z : Value} (hz : ∀ w, (zeroValue e).run P w = .ok z w) (h : MapF kv w b f) (k : κ) :
    (Instr.lookup t (.map (some b)) (kv k) false).run P w = .ok ((f k).getD z) w := by
  obtain ⟨E, c, es, h1, h2, h3⟩ := h
  obtain ⟨d, hd, hk, hs⟩ := K.same
  obtain ⟨r, g1, g2, _⟩ := findNow_assoc hs k E.toList es 0 h2
  rw [← h3 k, ← g2]
  cases r with
  | none => simp [Instr.lookup, run_underlying ht, MapKept.run_getObj_map h1, MapKept.run_checkKey hd (hk k), MapKept.run_findKey hd g1, hz, Result.andThen]
  | some r => simp [Instr.lookup, run_underlying ht, MapKept.run_getObj_map h1, MapKept.run_checkKey hd (hk k), MapKept.run_findKey hd g1, Result.andThen]

theorem look_map_ok {P : Program} {t kt e : TypeId} (K : KeyKind κ P kt kv) (ht : P.underlying t = some (.map kt e)) {z : Value} (hz : ∀ w, (zeroValue e).run P w = .ok z w) (h : MapF kv w b f) (k : κ) :
    (Instr.lookup t (.map (some b)) (kv k) true).run P w = .ok (.tuple #[(f k).getD z, .bool (f k).isSome]) w := by
  obtain ⟨E, c, es, h1, h2, h3⟩ := h
  obtain ⟨d, hd, hk, hs⟩ := K.same
  obtain ⟨r, g1, g2, _⟩ := findNow_assoc hs k E.toList es 0 h2
  rw [← h3 k, ← g2]
  cases r with
  | none => simp [Instr.lookup, run_underlying ht, MapKept.run_getObj_map h1, MapKept.run_checkKey hd (hk k), MapKept.run_findKey hd g1, hz, Result.andThen]
  | some r => simp [Instr.lookup, run_underlying ht, MapKept.run_getObj_map h1, MapKept.run_checkKey hd (hk k), MapKept.run_findKey hd g1, Result.andThen]

theorem look_nil {P : Program} {t kt e : TypeId} (K : KeyKind κ P kt kv) (ht : P.underlying t = some (.map kt e)) {z : Value} (hz : ∀ w, (zeroValue e).run P w = .ok z w) (w : World) (k : κ) :
    (Instr.lookup t (.map none) (kv k) false).run P w = .ok z w := by
  obtain ⟨d, hd, hk, hs⟩ := K.same
  have g1 : Instr.findNow d (kv k) [] 0 = some none := rfl
  simp [Instr.lookup, run_underlying ht, MapKept.run_checkKey hd (hk k), MapKept.run_findKey hd g1, hz, Result.andThen]

theorem store_map {P : Program} {t kt e : TypeId} (K : KeyKind κ P kt kv) (ht : P.underlying t = some (.map kt e)) (h : MapF kv w b f) (k : κ) (v : Value) :
    ∃ w', (Instr.mapUpdate t (.map (some b)) (kv k) v).run P w = .ok () w' ∧ MapF kv w' b (fun k' => if k' = k then some v else f k') ∧ Only (· = b) w w' := by
  obtain ⟨E, c, es, h1, h2, h3⟩ := h
  obtain ⟨d, hd, hk, hs⟩ := K.same
  obtain ⟨r, g1, g2, g3⟩ := findNow_assoc hs k E.toList es 0 h2
  have only : ∀ o, Only (· = b) w { w with heap := w.heap.setIfInBounds b o } := fun o => ⟨rfl, rfl, rfl, by simp, fun i hi hn => (MapKept.heap_set h1).2 i hn⟩
  cases r with
  | none =>
    refine ⟨_, ?_, ⟨_, _, es ++ [(k, v)], (MapKept.heap_set (o' := .map (E.push { key := kv k, val := v, born := c }) (c + 1)) h1).1, ?_, ?_⟩, only _⟩
    · simp [Instr.mapUpdate, run_underlying ht, MapKept.run_getObj_map h1, MapKept.run_checkKey hd (hk k), MapKept.run_findKey hd g1, MapKept.run_setObj_map _ h1, Result.andThen]
    · simp [h2]
    · intro k'
      dsimp only
      rw [← h3 k']
      have hn : assoc es k = none := by rw [← g2]; rfl
      by_cases e : k' = k
      · subst e
        simp only [assoc, Option.map_eq_none_iff] at hn
        simp [assoc, List.find?_append, hn]
      · simp only [if_neg e, assoc, List.find?_append]
        have : (k' == k) = false := by simpa using e
        simp [this]
  | some r =>
    obtain ⟨i, u⟩ := r
    obtain ⟨_, q2, q3, q4⟩ := g3 i u rfl
    simp only [Nat.sub_zero] at q2 q3 q4
    have hi : i < E.size := by simpa using q2
    have hkey : (((E[i]?).map (·.key)).getD (kv k)) = kv k := by simp [hi] at q3 ⊢; exact q3
    refine ⟨_, ?_, ⟨_, _, es.set i (k, v), (MapKept.heap_set (o' := .map (E.modify i fun e => { e with key := kv k, val := v }) c) h1).1, ?_, ?_⟩, only _⟩
    · simp only [Instr.mapUpdate, Sem.run_bind, run_underlying ht, MapKept.run_getObj_map h1, MapKept.run_checkKey hd (hk k), MapKept.run_findKey hd g1, Result.andThen, hkey, MapKept.run_keyThatStays (hk k), MapKept.run_setObj_map _ h1]
    · rw [List.map_set, ← h2]
      apply List.ext_getElem?
      intro m
      simp only [Array.toList_modify, List.getElem?_map, List.getElem?_modify, List.getElem?_set, List.length_map]
      by_cases e : i = m
      · subst e; simp [hi]
      · simp [e]
    · intro k'
      dsimp only
      rw [q4 v k', h3 k']

end
end Go.Proofs.Ytmhkdpmcnaeaiaa
