/-
  The row of a statement out of its walk, once for all statements.
-/
import Derived.Deep.DeepHandedRow
import Derived.ChangeMaps5
import Derived.Lib.LaidTab
import Derived.Test.YtjmdfipofgmakaaDoorCards
import Derived.Test.YtjmdfipofgmakaaDoorTy
namespace Go.Proofs.YtjmdfipofgmakaaDoor
open Go.ChangeShapes Go.WideShapes Go.ChangeAt Go.RowKit
set_option linter.unusedVariables false
set_option linter.unusedSimpArgs false

theorem Tryd.own : ownKnob Tryd.prog.godebug = none := by kernel_rfl
theorem Tryd.laidOut : laidOutB Tryd.prog = true := by kernel_rfl

/-- a value with these cells -/
def IsV : Ty → List Value → Value → Prop
  | .st _, cs, v => v = .agg cs.toArray
  | .arr _ _, cs, v => v = .agg cs.toArray
  | _, cs, v => cs = [v]
def ArgsHold (w : World) : (tys : List Ty) → Ty.Vals tys → List Value → Prop
  | [], _, args => args = []
  | ty :: r, v, args => ∃ cs a rest, args = a :: rest ∧ Holds w ty v.1 cs ∧ IsV ty cs a ∧ ArgsHold w r v.2 rest
def fitsL (P : Program) : List Ty → List TypeId → Bool
  | [], [] => true
  | ty :: r, t :: ts => fits P 20 ty t && fitsL P r ts
  | _, _ => false

section
variable {H : Type} {enc : TypeId × Value → H} {P : Program} {w : World}
theorem arg_of {ty : Ty} {t : TypeId} {r : Reach} {b : Nat} {v : Value} {sp : Nat → Bool} {hd : Bool} {d : DataW H} {p : List MemPlace} (hf : fits P 20 ty t = true) (hok : Value.okWide P w r b t v) (h : DataW.Trod enc P w 0 sp hd t v d p) :
    ∃ (x : ty.Val) (cs : List Value), Holds w ty x cs ∧ IsV ty cs v := by
  obtain ⟨m, hm⟩ := h
  obtain ⟨x, hx⟩ := (holds_of_trod 20).1 ty t m _ _ hf hm
  refine ⟨x, _, hx, ?_⟩
  cases ty with
  | bool =>
    simp only [fits] at hf
    split at hf
    · rename_i hu
      obtain ⟨q, rfl⟩ := okWide_bool hu hok
      simp [IsV, Value.cells]
    · cases hf
  | int k =>
    simp only [fits] at hf
    split at hf
    · rename_i k' hu
      obtain ⟨q, rfl⟩ := okWide_int hu hok
      simp [IsV, Value.cells]
    · cases hf
  | str =>
    simp only [fits] at hf
    split at hf
    · rename_i hu
      obtain ⟨q, rfl⟩ := okWide_string hu hok
      simp [IsV, Value.cells]
    · cases hf
  | st fs =>
    simp only [fits] at hf
    split at hf
    · rename_i fields hu
      obtain ⟨q, rfl, _⟩ := okWide_struct hu hok
      simp [IsV, Value.cells]
    · cases hf
  | sl e =>
    simp only [fits] at hf
    split at hf
    · rename_i e' hu
      obtain ⟨a, l, c, rfl⟩ := okWide_slice hu hok
      simp [IsV, Value.cells]
    · cases hf
  | arr n e =>
    simp only [fits] at hf
    split at hf
    · rename_i m' e' hu
      simp only [Value.okWide, hu] at hok
      obtain ⟨q, rfl, _⟩ := hok
      simp [IsV, Value.cells]
    · cases hf

theorem args_of {b0 : Nat} : ∀ (tys : List Ty) (ts : List TypeId) (args : List Value) (ds : List (DataW H)) (p : List MemPlace), fitsL P tys ts = true →
    (∀ (j : Nat) t v, ts[j]? = some t → args[j]? = some v → Value.okWide P w .any b0 t v) → DataW.TrodAll enc P w 0 (fun _ => true) true ts args ds p → ∃ vals, ArgsHold w tys vals args
  | [], [], args, ds, p, _, _, h => by
    obtain ⟨rfl, rfl, rfl⟩ := trodAll_nil h
    exact ⟨(), by simp [ArgsHold]⟩
  | [], _ :: _, _, _, _, hf, _, _ => by simp [fitsL] at hf
  | _ :: _, [], _, _, _, hf, _, _ => by simp [fitsL] at hf
  | ty :: r, t :: ts, args, ds, p, hf, hok, h => by
    simp only [fitsL, Bool.and_eq_true] at hf
    obtain ⟨v, vs, d, ds', a, b, rfl, rfl, rfl, h1, h2⟩ := trodAll_cons h
    obtain ⟨x, cs, hx, hv⟩ := arg_of hf.1 (hok 0 t v rfl rfl) h1
    obtain ⟨vals, hvals⟩ := args_of r ts vs ds' b hf.2 (fun j t' v' h1 h2 => hok (j + 1) t' v' (by simpa using h1) (by simpa using h2)) h2
    exact ⟨(x, vals), by simp only [ArgsHold]; exact ⟨cs, v, vs, rfl, hx, hv, hvals⟩⟩

theorem trodAll_below (hl : laidOutB P = true) {W W' : World} (hb : Below W.heap.size W W') : ∀ (ts : List TypeId) (vs : List Value) (ds : List (DataW H)) (p : List MemPlace), ts.all (fun t => P.readableRec t && decide (t < P.types.size)) = true →
    (∀ x ∈ p, x.block < W.heap.size) → DataW.TrodAll enc P W 0 (fun _ => true) true ts vs ds p → DataW.TrodAll enc P W' 0 (fun b => decide (b < W.heap.size)) true ts vs ds p
  | [], vs, ds, p, _, _, h => by
    obtain ⟨rfl, rfl, rfl⟩ := trodAll_nil h
    exact trodAll_mk0
  | t :: ts, vs, ds, p, hr, hlt, h => by
    simp only [List.all_cons, Bool.and_eq_true, decide_eq_true_eq] at hr
    obtain ⟨v, vs', d, ds', a, b, rfl, rfl, rfl, h1, h2⟩ := trodAll_cons h
    exact ⟨a, b, Below.trod hl hr.1.1 hr.1.2 h1 hb (fun x hx => hlt x (by simp [hx])), trodAll_below hl hb ts vs' ds' b hr.2 (fun x hx => hlt x (by simp [hx])) h2, rfl⟩
end

/-- a string that comes in takes at most so many bytes -/
def SmallV : (ty : Ty) → ty.Val → Prop
  | .str, s => s.size ≤ reachBytes
  | _, _ => True
def SmallAll : (tys : List Ty) → Ty.Vals tys → Prop
  | [], _ => True
  | ty :: r, v => SmallV ty v.1 ∧ SmallAll r v.2
section
variable {H : Type} {enc : TypeId × Value → H} {P : Program} {w : World}
set_option maxRecDepth 100000 in
theorem arg_small {ty : Ty} {t : TypeId} {r : Reach} {b : Nat} {v : Value} {sp : Nat → Bool} {hd : Bool} {d : DataW H} {p : List MemPlace} {x : ty.Val} {cs : List Value} (hf : fits P 20 ty t = true) (hok : Value.okWide P w r b t v) (h : DataW.Trod enc P w 0 sp hd t v d p)
    (hx : Holds w ty x cs) (hv : IsV ty cs v) (hwt : (d.weights P t).all (· ≤ reachBytes) = true) : SmallV ty x := by
  cases ty with
  | str =>
    simp only [fits] at hf
    split at hf
    · rename_i hu
      obtain ⟨s, rfl, rfl, rfl, hs⟩ := Go.ChangeMaps.open_string hu hok h
      obtain ⟨h1, _⟩ := hx
      simp only [IsV] at hv
      rw [h1] at hv
      have hv2 : Value.string x = Value.string s := by simpa using hv
      injection hv2 with hv3
      subst hv3
      have : (x.data.toList).length ≤ reachBytes := by simpa [DataW.weights] using hwt
      rwa [Array.length_toList] at this
    · cases hf
  | _ => trivial
set_option maxRecDepth 100000 in
theorem args_small {b0 : Nat} : ∀ (tys : List Ty) (ts : List TypeId) (args : List Value) (ds : List (DataW H)) (p : List MemPlace), fitsL P tys ts = true →
    (∀ (j : Nat) t v, ts[j]? = some t → args[j]? = some v → Value.okWide P w .any b0 t v) → DataW.TrodAll enc P w 0 (fun _ => true) true ts args ds p → (DataW.weightsEach P ts ds).all (· ≤ reachBytes) = true → ∃ vals, ArgsHold w tys vals args ∧ SmallAll tys vals
  | [], [], args, ds, p, _, _, h, _ => by
    obtain ⟨rfl, rfl, rfl⟩ := trodAll_nil h
    exact ⟨(), by simp [ArgsHold], trivial⟩
  | [], _ :: _, _, _, _, hf, _, _, _ => by simp [fitsL] at hf
  | _ :: _, [], _, _, _, hf, _, _, _ => by simp [fitsL] at hf
  | ty :: r, t :: ts, args, ds, p, hf, hok, h, hwt => by
    simp only [fitsL, Bool.and_eq_true] at hf
    obtain ⟨v, vs, d, ds', a, b, rfl, rfl, rfl, h1, h2⟩ := trodAll_cons h
    rw [DataW.weightsEach, List.all_append, Bool.and_eq_true] at hwt
    obtain ⟨x, cs, hx, hv⟩ := arg_of hf.1 (hok 0 t v rfl rfl) h1
    obtain ⟨vals, hvals, hsm⟩ := args_small r ts vs ds' b hf.2 (fun j t' v' h1 h2 => hok (j + 1) t' v' (by simpa using h1) (by simpa using h2)) h2 hwt.2
    exact ⟨(x, vals), by simp only [ArgsHold]; exact ⟨cs, v, vs, rfl, hx, hv, hvals⟩, arg_small hf.1 (hok 0 t v rfl rfl) h1 hx hv hwt.1, hsm⟩
end

set_option maxRecDepth 100000 in
/-- the step of a row that lists variables -/
theorem row_lifted (N : FuncId) (fn : Func) (s : ChangeSpec) (conds : List PathCond) (laid : List (String × DataW Unit)) (tys : List Ty) (tb : TypeId) (os : Os) (started : os.Started) (H : Type) (enc : TypeId × Value → H) (F : Stop.Interp)
    (hfn : Tryd.prog.funcs[N]? = some fn) (hN : Tryd.prog.inits.idxOf? N = none) (hsv : s.vars = []) (hvt : (OpenSpec.ofChange s).bare.plain.varTypes Tryd.prog = []) (hres : fn.resultTypes = #[tb]) (htb : Tryd.prog.underlying tb = some .bool)
    (hread : fn.params.toList.all (fun t => Tryd.prog.readableRec t && decide (t < Tryd.prog.types.size)) = true) (hfits : fitsL Tryd.prog tys fn.params.toList = true)
    (hspec : ∀ ds : List (DataW H), ds.length = fn.params.size → s.fn H ds = { results := [.lit (.bool true)], args := ds })
    (witness : ∃ (w : World) (tape : Tape) (i : Input), w.os = os ∧ (w.forCall tape i).Shaped Tryd.checked.prog ∧ i.vars = [] ∧ Input.okWide Tryd.checked.prog (w.forCall tape i) .any w.heap.size N i ∧
      (OpenSpec.ofChange s).preRow enc Tryd.checked.prog fn conds false laid (w.forCall tape i).memory i.args ∧ ({} : Assume).holds Tryd.checked.prog (lone (Frame.enter Tryd.checked.prog N i.args .normal) [] (w.forCall tape i)))
    (walk : ∀ (W : World) (vals : Ty.Vals tys) (args : List Value), ArgsHold W tys vals args → SmallAll tys vals → laidMetH Tryd.prog laid W → W.ShapedOpen Tryd.prog → Calls Tryd.prog N args.toArray W fun e W' => e = .returned (.bool true) ∧ Below W.heap.size W W') :
    ReturnsInHanded {} Tryd.checked os N .any ((OpenSpec.ofChange s).preRow enc Tryd.prog fn conds false laid) (((OpenSpec.ofChange s).at F).post enc Tryd.prog fn false true false false) := by
  refine returnsInHanded_of_row (C := Tryd.checked) (s := OpenSpec.ofChange s) Tryd.own started hN hfn witness ?_
  intro W base args ds gs before hval hW _ _ hwt hL hSO _
  have hW' := hW
  obtain ⟨p, q, hA0, hV, rfl, hfz, hnd⟩ := hW
  have hA : DataW.TrodAll enc Tryd.prog W 0 (fun _ => true) true fn.params.toList args.toList ds p := hA0
  rw [show (OpenSpec.ofChange s).vars = [] from hsv] at hV
  obtain ⟨rfl, rfl⟩ := trodVars_none hV
  simp only [List.append_nil] at hW' ⊢
  have hwt' : (DataW.weightsEach Tryd.prog fn.params.toList ds).all (· ≤ reachBytes) = true := by
    have e : (OpenSpec.ofChange s).bare.plain.varTypes Tryd.checked.prog = [] := hvt
    rw [e, List.append_nil, List.append_nil] at hwt
    exact hwt
  obtain ⟨vals, hvals, hsm⟩ := args_small tys fn.params.toList args.toList ds p hfits (fun j t v h1 h2 => by
    exact hval j t v (by simpa using h1) (by simpa using h2)) hA hwt'
  have hlt : ∀ x ∈ p, x.block < W.heap.size := fun x hx => hW'.lt x hx
  have hlen : ds.length = fn.params.size := by
    have : ∀ (ts : List TypeId) (vs : List Value) (ds : List (DataW H)) (p : List MemPlace), DataW.TrodAll enc Tryd.prog W 0 (fun _ => true) true ts vs ds p → ds.length = ts.length := by
      intro ts
      induction ts with
      | nil => intro vs ds p h; obtain ⟨_, rfl, _⟩ := trodAll_nil h; rfl
      | cons t ts ih =>
        intro vs ds p h
        obtain ⟨v, vs', d, ds', a, b, rfl, rfl, rfl, h1, h2⟩ := trodAll_cons h
        simp [ih _ _ _ h2]
    simpa using this _ _ _ _ hA
  refine (walk W vals args.toList hvals hsm hL hSO).mono fun e W' ⟨he, hb⟩ => ?_
  have hpost : s.post enc Tryd.prog fn false true false false W args (.bool true) W' := by
    refine ⟨ds, [], p, [], p, [], hW', ?_, ?_, ?_, hb.frame _, fun h => by cases h⟩
    · rw [List.append_nil, hspec ds hlen, hres]
      exact trodAll_mk1 (shut_bool htb _)
    · rw [List.append_nil, hspec ds hlen]
      exact trodAll_below Tryd.laidOut hb _ _ _ _ hread hlt hA
    · rw [List.append_nil, hspec ds hlen, hsv]
      trivial
  exact ⟨.bool true, he, hpost⟩

end Go.Proofs.YtjmdfipofgmakaaDoor
