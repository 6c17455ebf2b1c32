/-
  Proved: sorteslaw05.SignVerifies returns true for every seed and every text, never panics, and leaves its arguments as they were. Conditions: those of the given row (what the row's variables hold is what their initialisers lay; strings take at most the bytes that the row allows).
-/
import Derived.Shelf.Vars
import Derived.Stop.LaidErr
import Derived.Test.YtjmdfipofgmakaaDoorTie
import Derived.Test.YtjmdfipofgmakaaDoorCw
import Derived.Test.YtjmdfipofgmakaaDoorSz
namespace Go.Proofs.YtjmdfipofgmakaaDoor
open Go.ChangeShapes Go.WideShapes Go.ChangeAt Go.RowKit
set_option linter.unusedVariables false
set_option linter.unusedSimpArgs false

theorem gTab : Tryd.prog.globalNamed "internal/strconv.uint64pow10" = some 5 := by kernel_rfl
theorem gTabType : (Tryd.prog.globals[5]?).map (·.type) = some 188 := by kernel_rfl
theorem cellsT : Tryd.prog.cellsOf 188 = 20 := by kernel_rfl
theorem cellsU : Tryd.prog.cellsOf 109 = 1 := by kernel_rfl
theorem tabD : (Rows.laid_internal_strconv_uint64pow10 : DataW Unit) = Lib.tabData .u64 Lib.pow10Tab := by rfl
theorem tab_of {W : World} (h : laidMetH Tryd.prog Rows.signVerifiesRow.laid W) : Tab W :=
  Lib.tabIs_of_head (rest := [("strconv.ErrRange", Rows.laid_strconv_ErrRange), ("strconv.ErrSyntax", Rows.laid_strconv_ErrSyntax)]) gTab gTabType Tryd.underlying188 Tryd.underlying109 cellsU cellsT
    (by
      have h' : laidMet Tryd.prog Rows.signVerifiesRow.laid W := h
      have h2 := (laidMet.tail (laidMet.tail h'))
      rw [← tabD]
      exact h2)
theorem maxL_of {W : World} (h : W.ShapedOpen Tryd.prog) : MaxL W :=
  cell_of_shapedOpen_int h (of_decide_eq_true (by kernel_rfl)) (zero := #[.int .i64 0]) (t := 3) (by kernel_rfl) rfl (by kernel_rfl) (by kernel_rfl) Tryd.underlying3
theorem args_str2 {W : World} {vals : Ty.Vals [.str, .str]} {args : List Value} (h : ArgsHold W [.str, .str] vals args) : args = [.string vals.1, .string vals.2.1] := by
  obtain ⟨cs, a, rest, rfl, ⟨hc, _⟩, hv, cs2, a2, rest2, rfl, ⟨hc2, _⟩, hv2, hr⟩ := h
  simp only [IsV] at hv hv2
  rw [hc] at hv
  rw [hc2] at hv2
  injection hv with e1
  injection hv2 with e2
  rw [← e1, ← e2, show rest2 = [] from hr]
theorem signVerifies_walk (W : World) (vals : Ty.Vals [.str, .str]) (args : List Value) (h : ArgsHold W [.str, .str] vals args) (hs : SmallAll [.str, .str] vals) (hL : laidMetH Tryd.prog Rows.signVerifiesRow.laid W) (hO : W.ShapedOpen Tryd.prog) :
    Calls Tryd.prog 8 args.toArray W fun e W' => e = .returned (.bool true) ∧ Below W.heap.size W W' := by
  rw [args_str2 h]
  have hb : vals.1.size ≤ reachBytes := hs.1
  refine (signVerifies_any vals.1 vals.2.1 W (tab_of hL) (maxL_of hO) (by unfold reachBytes at hb; omega)).mono ?_
  rintro e w' ⟨h1, o⟩
  exact ⟨h1, o.below (fun _ h => h.elim) (Nat.le_refl _)⟩
theorem signVerifies_reads (os : Os) {H : Type} (enc : TypeId × Value → H) : ∃ places, DataW.whole enc Tryd.prog ((laidWorld os).forCall (fun _ _ => 0) ⟨#[], #[.string ⟨#[]⟩, .string ⟨#[]⟩], []⟩).memory Tryd.f8.params.toList Rows.signVerifiesSpec.vars false #[Value.string ⟨#[]⟩, Value.string ⟨#[]⟩].toList 8 = some ([.lit (.string []), .lit (.string [])], [], places) :=
  ⟨[], by kernel_rfl⟩
set_option maxRecDepth 100000 in
theorem signVerifies_lifted (os : Os) (started : os.Started) (H : Type) (enc : TypeId × Value → H) (F : Stop.Interp) :
    ReturnsInHanded {} Tryd.checked os 8 .any ((OpenSpec.ofChange Rows.signVerifiesSpec).preRow enc Tryd.prog Tryd.f8 Rows.signVerifiesRow.domain false Rows.signVerifiesRow.laid) (((OpenSpec.ofChange Rows.signVerifiesSpec).at F).post enc Tryd.prog Tryd.f8 false true false false) := by
  obtain ⟨places, hx⟩ := signVerifies_reads os enc
  refine row_lifted 8 Tryd.f8 Rows.signVerifiesSpec Rows.signVerifiesRow.domain Rows.signVerifiesRow.laid [.str, .str] 4 os started H enc F Tryd.func8 (by kernel_rfl) rfl rfl (by kernel_rfl) Tryd.underlying4 (by kernel_rfl) (by kernel_rfl) ?_
    (witness_row_at (enc := enc) (C := Tryd.checked) false (laidWorld os) #[.string ⟨#[]⟩, .string ⟨#[]⟩] rfl (by kernel_rfl) (by kernel_rfl) (by kernel_rfl)
      (OpenSpec.preRow_of_cond 8 hx (by kernel_rfl) (fun k hk => by cases hk) (by kernel_rfl) (laid_met5 os _))) signVerifies_walk
  intro ds hd
  match ds, hd with
  | [d1, d2], _ => rfl
theorem signVerifies_said : Rows.SignVerifiesSaid :=
  OpenClaim.holds_of_cond 8 Tryd.f8 rfl rfl rfl rfl rfl rfl rfl ⟨rfl, rfl, rfl, rfl, rfl⟩ rfl rfl rfl rfl rfl (by kernel_rfl) Tryd.func8 (by kernel_rfl)
    (of_decide_eq_true (by kernel_rfl)) (by unfold Func.isWrapper; first | (rw [if_pos (by decide +kernel)]; kernel_rfl) | (rw [if_neg (by decide +kernel)]; exact ⟨rfl, rfl⟩))
    (fun os started H enc _ F => by rw [OpenClaim.pre_eq_preRow]; exact signVerifies_lifted os started H enc F)
theorem signVerifies_plain (f : FuncId) (fn : Func) (hf : Tryd.pinned.checked.prog.funcNamed "sortes/sorteslaw05.SignVerifies" = some f) (hfn : Tryd.pinned.checked.prog.funcs[f]? = some fn) :
    true = Tryd.pinned.checked.prog.looks [] ∧ ∀ (j : Nat) t, fn.params[j]? = some t → Tryd.pinned.checked.prog.wantsStandIn t = false := by
  obtain rfl : f = 8 := Option.some.inj ((show Tryd.prog.funcNamed "sortes/sorteslaw05.SignVerifies" = some 8 by kernel_rfl).symm.trans hf) |>.symm
  obtain rfl : fn = Tryd.f8 := (Option.some.inj (Tryd.func8.symm.trans hfn)).symm
  refine ⟨by kernel_rfl, fun j t ht => ?_⟩
  have hall : Tryd.f8.params.toList.all (fun t => Tryd.prog.wantsStandIn t == false) = true := by kernel_rfl
  have := List.all_eq_true.1 hall t (by simpa using Array.mem_of_getElem? ht)
  exact eq_of_beq this
theorem signVerifies_holds : Rows.SignVerifiesCardSaid :=
  Claim7.holds_tied_plain_at .later [] _ _ _ _ signVerifies_said (fun _ h => by cases h) (by kernel_rfl) (fun _ h => by cases h) signVerifies_row_tie rfl ⟨rfl, rfl⟩ (by kernel_rfl) rfl signVerifies_plain (by kernel_rfl)
end Go.Proofs.YtjmdfipofgmakaaDoor
