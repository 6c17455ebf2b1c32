/-
  Whole arrays: laws for a variable that is laid, stored and loaded as a whole, of whatever length.
-/
import Derived.Test.YtjmdfipofgmakaaDoorMem
import Derived.Deep.MidRow
namespace Go.Proofs.YtjmdfipofgmakaaDoor
open Go.RowKit
set_option linter.unusedVariables false
set_option linter.unusedSimpArgs false

def setL (cs : List Value) : Nat → List Value → List Value
  | _, [] => cs
  | o, v :: vs => setL (cs.set o v) (o + 1) vs
theorem setL_len : ∀ (vs cs : List Value) (o : Nat), (setL cs o vs).length = cs.length
  | [], cs, o => rfl
  | v :: vs, cs, o => by rw [setL, setL_len vs]; simp
theorem setL_get : ∀ (vs cs : List Value) (o i : Nat), o + vs.length ≤ cs.length → (setL cs o vs)[i]? = if o ≤ i ∧ i < o + vs.length then vs[i - o]? else cs[i]?
  | [], cs, o, i, _ => by simp [setL]; omega
  | v :: vs, cs, o, i, h => by
    simp only [List.length_cons] at h
    rw [setL, setL_get vs (cs.set o v) (o + 1) i (by simp; omega)]
    rcases Nat.lt_trichotomy i o with h1 | h1 | h1
    · rw [if_neg (by omega), if_neg (by omega), List.getElem?_set_ne (by omega)]
    · subst h1
      rw [if_neg (by omega), if_pos (by simp), List.getElem?_set_self (by omega)]
      simp
    · by_cases h2 : i < o + 1 + vs.length
      · rw [if_pos (by omega), if_pos (by simp; omega), show i - o = (i - (o + 1)) + 1 by omega]
        simp
      · rw [if_neg (by omega), if_neg (by simp; omega), List.getElem?_set_ne (by omega)]
theorem setL_all (vs cs : List Value) (h : cs.length = vs.length) : setL cs 0 vs = vs := by
  apply List.ext_getElem?
  intro i
  rw [setL_get vs cs 0 i (by omega)]
  by_cases hi : i < vs.length
  · rw [if_pos (by omega)]; simp
  · rw [if_neg (by omega), List.getElem?_eq_none (by omega), List.getElem?_eq_none (by omega)]
theorem At.puts {g : Nat} {t : TypeId} : ∀ (vs cs : List Value) (o : Nat) (w : World), At w g t cs → At (w.setCells g o vs) g t (setL cs o vs)
  | [], cs, o, w, h => h
  | v :: vs, cs, o, w, h => At.puts vs (cs.set o v) (o + 1) _ (h.put o v)
theorem Only.puts {S : Nat → Prop} {g : Nat} (w0 : World) (hS : g < w0.heap.size → S g) : ∀ (vs : List Value) (o : Nat) (w : World), Only S w0 w → Only S w0 (w.setCells g o vs)
  | [], o, w, h => h
  | v :: vs, o, w, h => Only.puts w0 hS vs (o + 1) _ (h.put (p := ⟨g, o, none⟩) hS v)

theorem At.range {w : World} {g : Nat} {t : TypeId} {cs : List Value} (h : At w g t cs) : w.rangeAt g 0 cs := fun j v hv => h.cell (i := 0 + j) (by rw [Nat.zero_add]; exact hv)
section
variable {P : Program} {ops : Array Oper} {rest : List Oper} {o : Oper} {a : Act} {w : World} {Q : Exit → Act → World → Prop}
theorem wpl_alloc_all (hgd : o.guard = none) (ty : TypeId) (ho : o.op = .alloc ty) (zs : List Value) (hz : (zeroValue ty).run P w = .ok (.agg zs.toArray) w)
    (h : ∀ w', At w' w.heap.size ty zs → Only (fun _ => False) w w' → w'.heap.size = w.heap.size + 1 → wpList P ops Q rest (a.put o.dst (.pointer (some ⟨w.heap.size, 0, none⟩))) w') :
    wpList P ops Q (o :: rest) a w := by
  refine wpList_plain hgd fun _ hK => ?_
  unfold Oper.wp execOp
  have hr : (Instr.alloc ty true (.tuple #[])).run P w = .ok (.pointer (some ⟨w.heap.size, 0, none⟩)) (w.alloc (.cells zs.toArray ty)) := by
    unfold Instr.alloc
    rw [Sem.run_bind, hz]
    rfl
  simp only [ho, Sem.run_bind, Sem.run_pure, Result.andThen_ok, hr]
  exact hK _ _ (h _ (At.new w ty zs) ((Only.refl _ w).alloc _) (by simp))
theorem wpl_store_all (hgd : o.guard = none) (ty : TypeId) (x y : Operand) (ho : o.op = .store ty x y) (g : Nat) (t : TypeId) (old news : List Value)
    (hx : a.eval x = .pointer (some ⟨g, 0, none⟩)) (hy : a.eval y = .agg news.toArray) (hat : At w g t old) (hl : old.length = news.length) (hi : (P.info? ty).map (·.size) = some news.length) (h1 : ∀ v ∈ news, v.oneCell' = true)
    (h : ∀ w', At w' g t news → Only (· = g) w w' → w'.heap.size = w.heap.size → wpList P ops Q rest (a.put o.dst undef) w') : wpList P ops Q (o :: rest) a w := by
  refine wpList_store_mid hgd ty x y ho g 0 news.toArray hx hy ?_ (by simpa using hi) (all_oneCell_toArray h1) ?_
  · intro j hj
    refine ⟨?_, hat.frozen _⟩
    have hj' : j < old.length := by rw [hl]; simpa using hj
    rw [hat.cell (i := 0 + j) (v := old[j]) (by rw [Nat.zero_add, List.getElem?_eq_getElem hj'])]
    rfl
  · have e := hat.puts news old 0 w
    rw [setL_all news old hl] at e
    refine h _ e (Only.puts (S := (· = g)) w (fun _ => rfl) news 0 w (Only.refl _ w)) ?_
    have : ∀ (vs : List Value) (o : Nat) (w : World), (w.setCells g o vs).heap.size = w.heap.size := by
      intro vs
      induction vs with
      | nil => intro o w; rfl
      | cons v vs ih => intro o w; exact (ih (o + 1) _).trans (by simp [World.setCell])
    exact this _ _ _
theorem wpl_build (hgd : o.guard = none) (ty : TypeId) (parts : Array (Nat × Operand)) (ho : o.op = .build ty parts) (v : Value) (hr : (Instr.build ty (parts.map fun (i, x) => (i, a.eval x))).run P w = .ok v w)
    (h : wpList P ops Q rest (a.put o.dst v) w) : wpList P ops Q (o :: rest) a w := by
  refine wpList_plain hgd fun _ hK => ?_
  unfold Oper.wp execOp
  simp only [ho, Sem.run_bind, Sem.run_pure, Result.andThen_ok, hr]
  exact hK _ _ h
theorem wpl_load_all (hgd : o.guard = none) (ty : TypeId) (x : Operand) (ho : o.op = .load ty x) (g : Nat) (hx : a.eval x = .pointer (some ⟨g, 0, none⟩)) (t : TypeId) (cs : List Value) (d : TypeDesc) (hg : At w g t cs)
    (hu : P.underlying ty = some d) (hd : d.isRow = true) (hi : (P.info? ty).map (·.size) = some cs.length)
    (h : wpList P ops Q rest (a.put o.dst (.agg cs.toArray)) w) : wpList P ops Q (o :: rest) a w :=
  wpList_load_mid hgd ty x ho g 0 hx cs d hg.range hu hd hi h
theorem results_all {fn : Func} {p : Tmp} {ty : TypeId} (hf : fn.results = #[.cell p ty]) (tmps : Array Value) (g : Nat) (hp : tmps.getD p undef = .pointer (some ⟨g, 0, none⟩)) (t : TypeId) (cs : List Value) (d : TypeDesc) (hg : At w g t cs)
    (hu : P.underlying ty = some d) (hd : d.isRow = true) (hi : (P.info? ty).map (·.size) = some cs.length) :
    (results fn tmps).run P w = .ok (.agg cs.toArray) w := by
  have hr := run_loadVar_mid (P := P) w g 0 ty cs d hg.range hu hd hi
  have hp' : tmps[p]?.getD undef = .pointer (some ⟨g, 0, none⟩) := by rw [← Array.getD_eq_getD_getElem?]; exact hp
  simp only [results, hf]
  simp [Sem.run_bind, Result.andThen, hp', asAddr, hr]
theorem run_index_agg {ty elem : TypeId} {len : Nat} (hu : P.underlying ty = some (.array len elem)) (hz : (sizeOf elem).run P w = .ok 1 w) (ha : (isAgg elem).run P w = .ok false w) (k : IntKind) (i : Nat) (hi : i < len) (cs : List Value) (v : Value) (hv : cs[i]? = some v) :
    (Instr.index ty (.agg cs.toArray) (.int k i)).run P w = .ok v w := by
  have h1 : (0 : Int) ≤ (i : Int) ∧ (i : Int) < (len : Int) := by omega
  have hr : (part elem cs.toArray i).run P w = .ok v w := by
    unfold part
    rw [Sem.run_bind, ha]
    simp only [Result.andThen_ok, Bool.false_eq_true, if_false]
    have : cs.toArray[i]? = some v := by simpa using hv
    rw [this]
    rfl
  simp only [Instr.index, asIntOf, Sem.run_bind, Sem.run_pure, Result.andThen_ok, run_underlying hu, if_pos h1, hz, Int.toNat_natCast, Nat.mul_one, hr]
theorem wpl_index {elem : TypeId} {len : Nat} (hgd : o.guard = none) (ty : TypeId) (x y : Operand) (ho : o.op = .index ty x y) (cs : List Value) (k : IntKind) (i : Nat) (hx : a.eval x = .agg cs.toArray) (hy : a.eval y = .int k i) (hu : P.underlying ty = some (.array len elem)) (hz : (sizeOf elem).run P w = .ok 1 w) (ha : (isAgg elem).run P w = .ok false w) (hi : i < len) (v : Value) (hv : cs[i]? = some v)
    (h : wpList P ops Q rest (a.put o.dst v) w) : wpList P ops Q (o :: rest) a w := by
  refine wpList_plain hgd fun _ hK => ?_
  unfold Oper.wp execOp
  simp only [ho, hx, hy, Sem.run_bind, Sem.run_pure, Result.andThen_ok, run_index_agg hu hz ha k i hi cs v hv]
  exact hK _ _ h
end
end Go.Proofs.YtjmdfipofgmakaaDoor
