/-
  sign.Text, sign.Read (of texts that hold numbers): contracts.
-/
import Derived.Lib.ItoaLen
import Derived.Test.YtjmdfipofgmakaaDoorSu
namespace Go.Proofs.YtjmdfipofgmakaaDoor
open Go.RowKit Go.Shelf
set_option linter.unusedVariables false
set_option linter.unusedSimpArgs false

/-- the library's table of powers of ten -/
def Tab (w : World) : Prop := Lib.TabIs Tryd.prog w "internal/strconv.uint64pow10" .u64 Lib.pow10Tab
theorem Tab.only {w w' : World} (h : Tab w) (o : Only (fun _ => False) w w') : Tab w' := by
  unfold Tab Lib.TabIs World.var? at h ⊢
  cases hg : Tryd.prog.globalNamed "internal/strconv.uint64pow10" with
  | none => simp [hg] at h
  | some g =>
    simp only [hg, Option.bind_some] at h ⊢
    have hlt : g < w.heap.size := by
      rcases Nat.lt_or_ge g w.heap.size with h' | h'
      · exact h'
      · simp [Array.getElem?_eq_none h'] at h
    rw [o.same g hlt (fun h => h)]
    exact h
theorem ByteArray.mk_append_mk' (a b : List UInt8) : (ByteArray.mk a.toArray) ++ (ByteArray.mk b.toArray) = ByteArray.mk (a ++ b).toArray := by
  apply ByteArray.ext; simp [ByteArray.data_append]
theorem only_bytesWorld (w : World) (t : ByteArray) : Only (fun _ => False) w (Go.Lib.bytesWorld w 5 t) := by
  refine ⟨?_, ?_, ?_, ?_, ?_⟩
  · simp [Go.Lib.bytesWorld, World.freeze, World.alloc, World.drew, -World.alloc_eq, -World.drew_eq]
  · simp [Go.Lib.bytesWorld, World.freeze, World.alloc, World.drew, -World.alloc_eq, -World.drew_eq]
  · simp [Go.Lib.bytesWorld, World.freeze, World.alloc, World.drew, -World.alloc_eq, -World.drew_eq]
  · rw [Go.Lib.bytesWorld_size]; omega
  · intro j hj _; exact Go.Lib.bytesWorld_at_old w _ t j hj
theorem results_cell_tmp {P : Program} {w : World} {fn : Func} {p q : Tmp} {ty : TypeId} (hf : fn.results = #[.cell p ty, .tmp q]) (tmps : Array Value) (g : Nat) (hp : tmps.getD p undef = .pointer (some ⟨g, 0, none⟩)) (t : TypeId) (cs : List Value) (d : TypeDesc) (hg : At w g t cs)
    (hu : P.underlying ty = some d) (hd : d.isRow = true) (hi : (P.info? ty).map (·.size) = some cs.length) (v : Value) (hv : tmps.getD q undef = v) :
    (results fn tmps).run P w = .ok (.tuple #[.agg cs.toArray, v]) w := by
  have hr := run_loadVar_mid (P := P) w g 0 ty cs d hg.range hu hd hi
  have hp' : tmps[p]?.getD undef = .pointer (some ⟨g, 0, none⟩) := by rw [← Array.getD_eq_getD_getElem?]; exact hp
  have hv' : tmps[q]?.getD undef = v := by rw [← Array.getD_eq_getD_getElem?]; exact hv
  simp only [results, hf]
  simp [Sem.run_bind, Result.andThen, hp', hv', asAddr, hr]
theorem only_grow (w : World) (os : Array Obj) : Only (fun _ => False) w (Sort.grow w os) := ⟨rfl, rfl, rfl, by simp [Sort.grow], fun k hk _ => by simp [Sort.grow, Array.getElem?_append, hk]⟩
theorem itoa_any (n : Int) (hn : I64 n) (w0 w : World) (ht : Tab w0) (o : Only (fun _ => False) w0 w) :
    Calls Tryd.prog 83 #[.int .i64 n] w fun e w' => e = .returned (.string ⟨(Lib.itoa n).toArray⟩) ∧ Only (fun _ => False) w w' :=
  (Tryd.strconv_Itoa n hn.1 hn.2 w (ht.only o)).mono (fun e w' h => by obtain ⟨h1, k, os, rfl⟩ := h; exact ⟨h1, ((Only.refl _ w).drewN k).trans (only_grow _ os) (fun _ _ h => h)⟩)
/-- the text of two numbers -/
def txt (r s : Int) : List UInt8 := Lib.itoa r ++ 46 :: Lib.itoa s
theorem keepT {w X W : World} {g : Nat} {r s : Int} (h : X.cell? ⟨g, 0, none⟩ = some (.int .i64 r) ∧ X.cell? ⟨g, 1, none⟩ = some (.int .i64 s) ∧ Hid (Only (fun _ => False) w X)) (o : Only (fun _ => False) X W) :
    W.cell? ⟨g, 0, none⟩ = some (.int .i64 r) ∧ W.cell? ⟨g, 1, none⟩ = some (.int .i64 s) ∧ Hid (Only (fun _ => False) w W) := keepS h o
set_option maxRecDepth 100000 in
theorem text_any (r s : Int) (hr : I64 r) (hs : I64 s) (w : World) (ht : Tab w) :
    Calls Tryd.prog 45 #[.agg #[.int .i64 r, .int .i64 s]] w fun e w' => e = .returned (.string ⟨(txt r s).toArray⟩) ∧ Only (fun _ => False) w w' := by
  have A0 := Lib.hid (At.new w 52 [.int .i64 r, .int .i64 s])
  have O0 := Lib.hid ((Only.refl (fun _ => False) w).alloc (.cells [.int .i64 r, .int .i64 s].toArray 52))
  obtain ⟨x, hx⟩ : ∃ x, x = ByteArray.mk (Lib.itoa r).toArray := ⟨_, rfl⟩
  obtain ⟨y, hy⟩ : ∃ y, y = ByteArray.mk (Lib.itoa s).toArray := ⟨_, rfl⟩
  have hxz : x.size ≤ 21 := by rw [hx]; exact Lib.itoa_length_le r hr.1 hr.2
  have hyz : y.size ≤ 21 := by rw [hy]; exact Lib.itoa_length_le s hs.1 hs.2
  obtain ⟨t, hte⟩ : ∃ t, t = x ++ ByteArray.mk #[46] ++ y := ⟨_, rfl⟩
  have HT := Lib.hid (show ByteArray.mk (txt r s).toArray = t by rw [hte, hx, hy, ByteArray.mk_append_mk', ByteArray.mk_append_mk']; simp [txt])
  have HTE := Lib.hid hte.symm
  have hneg1 : ¬ (9223372036854775807 < x.size + 1) := by omega
  have hneg2 : ¬ (9223372036854775807 < x.size + 1 + y.size) := by omega
  have IA := Lib.hid (show ∀ W, Only (fun _ => False) w W → Calls Tryd.prog 83 #[.int .i64 r] W fun e w' => e = .returned (.string x) ∧ Only (fun _ => False) W w' from fun W o => by rw [hx]; exact itoa_any r hr w W ht o)
  have IB := Lib.hid (show ∀ W, Only (fun _ => False) w W → Calls Tryd.prog 83 #[.int .i64 s] W fun e w' => e = .returned (.string y) ∧ Only (fun _ => False) W w' from fun W o => by rw [hy]; exact itoa_any s hs w W ht o)
  clear hx hy hte hr hs ht hxz hyz
  go_enter Tryd.func45, Tryd.ntmps45
  go_wp2_with fail
  go_region_held3 (fun W => W.cell? ⟨w.heap.size, 0, none⟩ = some (.int .i64 r) ∧ W.cell? ⟨w.heap.size, 1, none⟩ = some (.int .i64 s) ∧ Hid (Only (fun _ => False) w W)) ((first | exact keepS (by assumption) (by assumption) | exact ⟨(A0.out.drewN 1).cell (i := 0) rfl, (A0.out.drewN 1).cell (i := 1) rfl, O0.out.drewN 1⟩)) (first | (go_at_call_of 83 (Value.int IntKind.i64 r); refine (IA.out _ (endS (g := w.heap.size) (r := r) (s := s) (by assumption))).mono ?_; rintro e' w4 ⟨rfl, o4⟩) | (go_at_call_of 83 (Value.int IntKind.i64 s); refine (IB.out _ (endS (g := w.heap.size) (r := r) (s := s) (by assumption))).mono ?_; rintro e' w5 ⟨rfl, o5⟩))
  all_goals go_wp2_with fail
  all_goals go_ret
  all_goals exact ⟨by rw [HT.out, ← HTE.out]; rfl, endS (g := w.heap.size) (r := r) (s := s) (by assumption)⟩
/-- world fact: what the search for a separator asks -/
def MaxL (w : World) : Prop := ∃ m, w.cell? ⟨2, 0, none⟩ = some (.int .i64 m)
theorem MaxL.only {w w' : World} (h : MaxL w) (o : Only (fun _ => False) w w') : MaxL w' := by
  obtain ⟨m, h⟩ := h
  exact ⟨m, o.cell h (fun h => h)⟩
theorem cut_any (s : ByteArray) (w : World) (hm : MaxL w) (hs : s.size < 4294967281) (a b : ByteArray) (f : Bool) (hc : Lib.cut s.data.toList [46] = (a.data.toList, b.data.toList, f)) :
    Calls Tryd.prog 84 #[.string s, .string ⟨#[46]⟩] w fun e w' => e = .returned (.tuple #[.string a, .string b, .bool f]) ∧ Only (fun _ => False) w w' := by
  obtain ⟨m, hm⟩ := hm
  refine (Tryd.strings_Cut s ⟨#[46]⟩ m w hs hm).mono (fun e w' h => ?_)
  obtain ⟨h1, n, rfl⟩ := h
  refine ⟨?_, (Only.refl _ w).drewN n⟩
  rw [h1, show (ByteArray.mk #[46]).data.toList = [46] from rfl, hc]
theorem parse_any (s : ByteArray) (v : Int) (w : World) (h : Lib.parseIntB 64 s.data.toList = .ok v) (hs : s.size ≤ 4294967281) :
    Calls Tryd.prog 85 #[.string s, .int .i64 10, .int .i64 64] w fun e w' => e = .returned (.tuple #[.int .i64 v, .nilIface]) ∧ Only (fun _ => False) w w' := by
  refine (Tryd.strconv_ParseInt_10_at64_ok s (by omega) v h w).mono (fun e w' h => ?_)
  obtain ⟨h1, h2⟩ := h
  refine ⟨h1, ?_⟩
  rcases h2 with rfl | ⟨t, rfl⟩
  · exact Only.refl _ _
  · exact only_bytesWorld w t
set_option maxRecDepth 100000 in
theorem read_any (s a b : ByteArray) (v u : Int) (w : World) (ht : Tab w) (hm : MaxL w) (hs : s.size < 4294967281) (ha : a.size ≤ 4294967281) (hb : b.size ≤ 4294967281) (hv : I64 v) (hu : I64 u)
    (hc : Lib.cut s.data.toList [46] = (a.data.toList, b.data.toList, true)) (pa : Lib.parseIntB 64 a.data.toList = .ok v) (pb : Lib.parseIntB 64 b.data.toList = .ok u) :
    Calls Tryd.prog 46 #[.string s] w fun e w' => e = .returned (if txt v u = s.data.toList then .tuple #[.agg #[.int .i64 v, .int .i64 u], .bool true] else .tuple #[.agg #[.int .i64 0, .int .i64 0], .bool false]) ∧ Only (fun _ => False) w w' := by
  have A0 := Lib.hid (At.new w 52 [.int .i64 0, .int .i64 0])
  have O0 := Lib.hid ((Only.refl (fun _ => False) w).alloc (.cells [.int .i64 0, .int .i64 0].toArray 52))
  have CT := Lib.hid (fun W o => cut_any s W (hm.only o) hs a b true hc)
  have PA := Lib.hid (fun W => parse_any a v W pa ha)
  have PB := Lib.hid (fun W => parse_any b u W pb hb)
  obtain ⟨t, hte⟩ : ∃ t, t = ByteArray.mk (txt v u).toArray := ⟨_, rfl⟩
  have TX := Lib.hid (show ∀ W, Only (fun _ => False) w W → Calls Tryd.prog 45 #[.agg #[.int .i64 v, .int .i64 u]] W fun e w' => e = .returned (.string t) ∧ Only (fun _ => False) W w' from fun W o => by rw [hte]; exact text_any v u hv hu W (ht.only o))
  have HT := Lib.hid hte
  clear ht hm hs ha hb hc pa pb hte
  go_enter Tryd.func46, Tryd.ntmps46
  go_wp2_with fail
  refine (CT.out _ O0.out).mono ?_
  rintro e w1 ⟨rfl, o1⟩
  have A1 := Lib.hid (A0.out.only o1 (fun h => h))
  have O1 := Lib.hid (O0.out.trans o1 (fun _ _ h => h))
  clear o1 A0 O0
  go_wp2_with fail
  refine (PA.out _).mono ?_
  rintro e w2 ⟨rfl, o2⟩
  have A2 := Lib.hid (A1.out.only o2 (fun h => h))
  have O2 := Lib.hid (O1.out.trans o2 (fun _ _ h => h))
  clear o2 A1 O1
  go_wp2_with fail
  refine (PB.out _).mono ?_
  rintro e w3 ⟨rfl, o3⟩
  have A3 := Lib.hid (A2.out.only o3 (fun h => h))
  have O3 := Lib.hid (O2.out.trans o3 (fun _ _ h => h))
  clear o3 A2 O2
  go_wp2_with fail
  have B3 := Lib.hid (At.new w3 52 [.int .i64 v, .int .i64 u])
  have o3' := (Only.refl (fun _ => False) w3).alloc (.cells [.int .i64 v, .int .i64 u].toArray 52)
  refine (TX.out _ (O3.out.trans o3' (fun _ _ h => h))).mono ?_
  rintro e w4 ⟨rfl, o4⟩
  have A4 := Lib.hid ((A3.out.only o3' (fun h => h)).only o4 (fun h => h))
  have B4 := Lib.hid (B3.out.only o4 (fun h => h))
  have O4 := Lib.hid ((O3.out.trans o3' (fun _ _ h => h)).trans o4 (fun _ _ h => h))
  have hne : w.heap.size ≠ w3.heap.size := by have := A3.out.lt; omega
  clear o4 o3' A3 B3 O3
  have c0 := A4.out.cell (i := 0) rfl
  have c1 := A4.out.cell (i := 1) rfl
  have f0 := A4.out.frozen 0
  have f1 := A4.out.frozen 1
  have d0 := B4.out.cell (i := 0) rfl
  have d1 := B4.out.cell (i := 1) rfl
  by_cases he : t = s
  · subst he
    have HE := Lib.hid (show txt v u = t.data.toList by rw [HT.out])
    go_wp2_with fail
    have hE : At _ w.heap.size 52 [.int .i64 v, .int .i64 u] := (A4.out.put 0 (.int .i64 v)).put 1 (.int .i64 u)
    refine bodyPost_ret (results_cell_tmp rfl _ w.heap.size rfl 52 [.int .i64 v, .int .i64 u] _ hE Tryd.underlying52 rfl infoSig (.bool true) rfl) rfl ⟨?_, ?_⟩
    · rfl
    · exact (O4.out.put (p := ⟨w.heap.size, 0, none⟩) (fun h => absurd h (Nat.lt_irrefl _)) _).put (p := ⟨w.heap.size, 1, none⟩) (fun h => absurd h (Nat.lt_irrefl _)) _
  · have HE := Lib.hid (show ¬ txt v u = s.data.toList from fun h => he (by rw [HT.out, h]))
    have hb : (t.toList == s.toList) = false := by
      rw [beq_eq_false_iff_ne, ByteArray.toList_eq, ByteArray.toList_eq]
      exact fun h => he (ByteArray.ext (Array.toList_inj.1 h))
    go_wp2_with fail
    have hE : At _ w.heap.size 52 [.int .i64 0, .int .i64 0] := (A4.out.put 0 (.int .i64 0)).put 1 (.int .i64 0)
    refine bodyPost_ret (results_cell_tmp rfl _ w.heap.size rfl 52 [.int .i64 0, .int .i64 0] _ hE Tryd.underlying52 rfl infoSig (.bool false) rfl) rfl ⟨?_, ?_⟩
    · rfl
    · exact (O4.out.put (p := ⟨w.heap.size, 0, none⟩) (fun h => absurd h (Nat.lt_irrefl _)) _).put (p := ⟨w.heap.size, 1, none⟩) (fun h => absurd h (Nat.lt_irrefl _)) _
end Go.Proofs.YtjmdfipofgmakaaDoor
